/- Contracts of the functions that the law 'ModelEdits' reaches, part 5. No condition. -/
import Derived.Test.YtgjpohhafmkhcaaMMEsd
set_option linter.unusedVariables false
set_option linter.unusedSimpArgs false
namespace Go.Proofs.Ytgjpohhafmkhcaa.L20
open L02 L13 L18
/-- a field of the object of a right handle of a valid model -/
structure Ed (m : Mo) (k n i : Nat) (sg : Int) (o : Ob) (t : List UInt8) (kd : UInt8) (x0 : UInt64) : Prop where
  hc : chk m = 0
  hr : rightErr m.slots k sg = 0
  hs : m.slots[k]? = some ⟨sg, true, n⟩
  hn : n < m.objs.length
  ho : m.objs[n]? = some o
  hob : ob m n = o
  hi : i < o.fs.length
  hx : o.fs[i]? = some x0
  hown : own m k = n
  hty : 0 ≤ o.ty ∧ o.ty < m.types.length
  ht : m.types[o.ty.toNat]? = some t
  hk : t[i]? = some kd
  htl : t.length = o.fs.length
  htt : ty m.types o = t
  hE : kErrF m k sg i = 0
  hkd : kind m k sg i = kd
  hfd : FdOk m.objs.length kd x0
theorem Ed.of {m : Mo} {k n i : Nat} {sg : Int} {s : Sl} {o : Ob} {t : List UInt8} (hc : chk m = 0) (hr : rightErr m.slots k sg = 0) (hs : m.slots[k]? = some s) (hu : s.used = true) (hg : s.gen = sg) (hat : s.at_ = n) (ho : m.objs[n]? = some o) (hob : ob m n = o) (hoo : ObOk m.types m.objs.length o)
    (hown : own m k = n) (ht : m.types[o.ty.toNat]? = some t) (htt : ty m.types o = t) (hkinds : kinds m k = t) (hfl : o.fs.length = t.length) (hi : i < o.fs.length) : ∃ kd x0, Ed m k n i sg o t kd x0 := by
  obtain ⟨g, u, a⟩ := s
  dsimp only at hu hg hat
  subst hu; subst hg; subst hat
  have ha : asked m k g = 0 := by rw [asked, if_pos hc, hr]
  have hk : t[i]? = some t[i] := List.getElem?_eq_getElem (by omega)
  have hx : o.fs[i]? = some o.fs[i] := List.getElem?_eq_getElem hi
  have hE : kErrF m k g i = 0 := by rw [kErrF, if_pos ha, if_pos (by rw [hkinds]; omega)]
  have hf := hoo.2.2 i hi
  rw [htt, List.getD_eq_getElem?_getD, hk, List.getD_eq_getElem?_getD, hx] at hf
  exact ⟨t[i], o.fs[i], hc, hr, hs, (List.getElem?_eq_some_iff.1 ho).1, ho, hob, hi, hx, hown, hoo.1, ht, hk, hfl.symm, htt, hE, by rw [kind, if_pos hE, hkinds, Int.toNat_natCast, List.getD_eq_getElem?_getD, hk]; rfl, hf⟩
theorem setV_ok {N : Nat} {kd : UInt8} {v : UInt64} (h : kd.toNat ≠ 3) : FdOk N kd (setV kd v) := by
  refine ⟨fun h2 => ?_, fun h3 => absurd h3 h⟩
  unfold setV
  split
  · exact .inl rfl
  · rename_i h4
    exact Decidable.not_not.1 fun h5 => h4 ⟨h2, h5⟩
theorem setV_id {N : Nat} {kd : UInt8} {v : UInt64} (h : FdOk N kd v) : setV kd v = v := by
  unfold setV
  split
  · rename_i h4; exact absurd (h.1 h4.1) h4.2
  · rfl
theorem setV_or (kd : UInt8) (v : UInt64) : setV kd v = v ∨ (setV kd v = no ∧ kd.toNat = 2) := by
  unfold setV
  split
  · rename_i h4; exact .inr ⟨rfl, h4.1⟩
  · exact .inl rfl
section
variable {m : Mo} {k n i : Nat} {sg : Int} {o : Ob} {t : List UInt8} {kd : UInt8} {x0 : UInt64} (h : Ed m k n i sg o t kd x0)
include h
theorem Ed.chk {v : UInt64} (hv : FdOk m.objs.length kd v) : L20.chk (putF m n i v) = 0 := by
  refine chk_putF h.hc h.hn fun _ => ?_
  rw [h.hob, h.htt, List.getD_eq_getElem?_getD, h.hk]; exact hv
/-- the field of an edited model -/
theorem Ed.put {v : UInt64} (hv : FdOk m.objs.length kd v) : Ed (putF m n i v) k n i sg ⟨o.ty, o.fs.set i v⟩ t kd v := by
  have hp := h.chk hv
  have hob : ob (putF m n i v) n = ⟨o.ty, o.fs.set i v⟩ := by rw [ob_putF h.hn, h.hob]
  have hki : kinds (putF m n i v) k = kinds m k := kinds_putF h.hn h.hown
  have hE : kErrF (putF m n i v) k sg i = kErrF m k sg i := by unfold kErrF; rw [asked_putF h.hc hp, hki]
  refine ⟨hp, h.hr, h.hs, by rw [len_putF]; exact h.hn, ?_, hob, by simpa using h.hi, List.getElem?_set_self h.hi, h.hown, h.hty, h.ht, h.hk, by simpa using h.htl, h.htt, hE.trans h.hE, ?_, by rw [len_putF]; exact hv⟩
  · show (m.objs.set n _)[n]? = _
    rw [List.getElem?_set_self h.hn, h.hob]
  · unfold kind; rw [hE, hki]; exact h.hkd
theorem Ed.fld : fld m k i = x0 := by rw [L20.fld, h.hown, h.hob, Int.toNat_natCast, List.getD_eq_getElem?_getD, h.hx]; rfl
theorem Ed.get (h3 : kd.toNat ≠ 3) : getE m k sg i = 0 ∧ getV m k sg i = x0 := by
  have e : getE m k sg i = 0 := by rw [getE, if_pos h.hE, h.hkd, if_neg h3]
  exact ⟨e, by rw [getV, if_pos e, h.fld]⟩
theorem Ed.get3 (h3 : kd.toNat = 3) : getE m k sg i = 42 ∧ getV m k sg i = 0 := by
  have e : getE m k sg i = 42 := by rw [getE, if_pos h.hE, h.hkd, if_pos h3]
  exact ⟨e, by rw [getV, e]; rfl⟩
theorem Ed.put_eq {v : UInt64} : L20.put m k i v = putF m n i v := by rw [L20.put, h.hown, Int.toNat_natCast]
theorem Ed.set {v : UInt64} (h3 : kd.toNat ≠ 3) : setM m k sg i v = putF m n i (setV kd v) := by rw [setM, if_pos (h.get h3).1, h.hkd, h.put_eq]
theorem Ed.set3 {v : UInt64} (h3 : kd.toNat = 3) : setM m k sg i v = .nil := by rw [setM, (h.get3 h3).1]; rfl
/-- back -/
theorem Ed.back {v : UInt64} : putF (putF m n i v) n i x0 = m := by
  rw [L20.putF_putF h.hn]
  have := putF_self (m := m) (n := n) (i := i) h.hn (by rw [h.hob]; exact h.hi)
  rw [h.hob, List.getD_eq_getElem?_getD, h.hx] at this
  exact this
theorem Ed.ref_no (tq : Option (Int × Int)) (h3 : kd.toNat ≠ 3) : refE m k sg i tq = 42 := by unfold refE; rw [if_pos h.hE, h.hkd, if_neg h3]
theorem Ed.ref (tq : Int × Int) (h3 : kd.toNat = 3) : refE m k sg i (some tq) = rightErr m.slots tq.1 tq.2 := by unfold refE; rw [if_pos h.hE, h.hkd, if_pos h3]
theorem Ed.refM (tq : Int × Int) (h3 : kd.toNat = 3) (hr : rightErr m.slots tq.1 tq.2 = 0) : refM m k sg i (some tq) = putF m n i (UInt64.ofNat (own m tq.1 + 1)) := by rw [L20.refM, if_pos (by rw [h.ref tq h3, hr]), h.put_eq]
theorem Ed.refN (h3 : kd.toNat = 3) : refE m k sg i none = 0 ∧ L20.refM m k sg i none = putF m n i 0 := by
  have e : refE m k sg i none = 0 := by unfold refE; rw [if_pos h.hE, h.hkd, if_pos h3]
  exact ⟨e, by rw [L20.refM, if_pos e, h.put_eq]⟩
theorem Ed.root0 (h3 : kd.toNat = 3) (hx : x0 = 0) : rootE m k sg i = 6 := by rw [rootE, if_pos h.hE, h.hkd, if_pos h3, h.fld, if_pos hx]
/-- a new handle: there is no slot, or this one -/
theorem Ed.root (h3 : kd.toNat = 3) (hx : x0 ≠ 0) : rootE m k sg i = 23 ∨ (rootE m k sg i = 0 ∧ ∃ (kk : Nat) (g0 : Int), kk < 16 ∧ m.slots[kk]? = some ⟨g0, false, 0⟩ ∧ rootS m k sg i = kk ∧ rootG m k sg i = g0 + 1 ∧ 0 ≤ g0 ∧
    rootM m k sg i = ⟨m.types, m.objs, m.slots.set kk ⟨g0 + 1, true, (x0.toNat - 1 : Nat)⟩⟩ ∧ L20.chk (rootM m k sg i) = 0 ∧ rightErr (rootM m k sg i).slots kk (g0 + 1) = 0 ∧ (rootM m k sg i).slots[kk]? = some ⟨g0 + 1, true, (x0.toNat - 1 : Nat)⟩) := by
  obtain ⟨h8, h960, h16, hty, hobs, hsl⟩ := chk_ok h.hc
  have he : rootE m k sg i = if next m.slots = none then 23 else 0 := by rw [rootE, if_pos h.hE, h.hkd, if_pos h3, h.fld, if_neg hx]
  by_cases hnx : next m.slots = none
  · left; rw [he, if_pos hnx]
  · right
    rw [if_neg hnx] at he
    obtain ⟨kk, hk⟩ := Option.ne_none_iff_exists'.1 hnx
    obtain ⟨_, ⟨s, hs, hu, hg1⟩, _⟩ := nextFrom_some hk
    rw [Nat.sub_zero] at hs
    have hkl : kk < 16 := by have := (List.getElem?_eq_some_iff.1 hs).1; omega
    have hsk := hsl s (List.mem_of_getElem? hs)
    obtain ⟨g0, u, a⟩ := s
    dsimp only at hu hg1
    subst hu
    obtain rfl : a = 0 := hsk.2.1 rfl
    have hgd : m.slots.getD kk .none = ⟨g0, false, 0⟩ := by rw [List.getD_eq_getElem?_getD, hs]; rfl
    have hg2 := hsk.1
    dsimp only at hg2
    have hM : rootM m k sg i = ⟨m.types, m.objs, m.slots.set kk ⟨g0 + 1, true, (x0.toNat - 1 : Nat)⟩⟩ := by
      rw [rootM, if_pos he, hk, Option.getD_some, givS, hgd, h.fld]
    have hself : (m.slots.set kk ⟨g0 + 1, true, ((x0.toNat - 1 : Nat) : Int)⟩)[kk]? = some ⟨g0 + 1, true, ((x0.toNat - 1 : Nat) : Int)⟩ := List.getElem?_set_self (by omega)
    have hx1 : 0 < x0.toNat := Nat.pos_of_ne_zero fun e => hx (UInt64.toNat.inj e)
    have hle := h.hfd.2 h3
    refine ⟨he, kk, g0, hkl, hs, by rw [rootS, if_pos he, hk]; rfl, by rw [rootG, if_pos he, hk, Option.getD_some, hgd], hg2.1, hM, ?_, ?_, by rw [hM]; exact hself⟩
    · rw [hM]
      refine chk_zero (by dsimp only; omega) ⟨by simpa using h16, hty, hobs, fun s hs' => ?_⟩
      rcases List.mem_or_eq_of_mem_set hs' with hs' | rfl
      · exact hsl s hs'
      · refine ⟨by dsimp only; omega, fun e => (by cases e), fun _ => ⟨by dsimp only; omega, by dsimp only; omega, by dsimp only; omega⟩⟩
    · rw [hM]
      show rightErr (m.slots.set kk ⟨g0 + 1, true, ((x0.toNat - 1 : Nat) : Int)⟩) kk (g0 + 1) = 0
      rw [rightErr, if_pos (by rw [List.length_set]; omega), Int.toNat_natCast, List.getD_eq_getElem?_getD, hself]
      simp
end
theorem to_idx {m : Mo} {a b : Int} (hc : chk m = 0) (h : rightErr m.slots a b = 0) : ∃ (k : Nat) (q : Nat), a = (k : Int) ∧ k < 16 ∧ m.slots[k]? = some ⟨b, true, q⟩ ∧ own m a = q ∧ q < m.objs.length ∧ q < 960 := by
  obtain ⟨h8, h960, h16, hty, hobs, hsl⟩ := chk_ok hc
  obtain ⟨k, ⟨g, u, at_⟩, rfl, hk, hs, hu, hg⟩ := right_ok h
  dsimp only at hu hg
  subst hu; subst hg
  have hso := hsl _ (List.mem_of_getElem? hs)
  obtain ⟨a1, a2, a3⟩ := hso.2.2 rfl
  dsimp only at a2 a3
  obtain ⟨n, rfl⟩ := Int.eq_ofNat_of_zero_le a2
  exact ⟨k, n, rfl, by omega, hs, by simp [own, List.getD_eq_getElem?_getD, hs], by omega, by omega⟩
end Go.Proofs.Ytgjpohhafmkhcaa.L20
namespace Go.Proofs.Ytgjpohhafmkhcaa
open Go.RowKit L02 L13 L18 L20
/-- where an own object with fields lies -/
theorem OwnF.at_ {w : World} {base n gf : Nat} {v : Value} {L : List Ob} {o : Ob} (h : OwnF w base v L n gf) (ho : L[n]? = some o) (hf : 0 < o.fs.length) :
    ∃ b q nf cf, (∀ W, (Instr.indexAt 23 v (.int .i64 (n : Int))).run Try.prog W = .ok (.pointer (some ⟨b, q, none⟩)) W) ∧ w.cell? ⟨b, q + 1, none⟩ = some (.slice (some ⟨gf, 0, none⟩) nf cf) ∧ nf = o.fs.length ∧
      (∀ i, i < o.fs.length → ∀ W, (Instr.indexAt 70 (.slice (some ⟨gf, 0, none⟩) nf cf) (.int .i64 (i : Int))).run Try.prog W = .ok (.pointer (some ⟨gf, i, none⟩)) W) ∧ v.ownBlock = some b ∧ ∃ xs, w.ownsRow base 72 2 v L.length xs := by
  obtain ⟨vs, nf, cf, h1, h2, h4, h5, hv⟩ := h
  have hk : n < L.length := (List.getElem?_eq_some_iff.1 ho).1
  have hr := h4 n _ _ hv ho
  obtain ⟨gf', cap, cur, hvv, _⟩ := own_form hr hf
  obtain rfl : nf = o.fs.length := by injection hvv
  have hix := fun W => Rd.ixN (P := Try.prog) (Rd.of_own h2) Try.underlying23 size_obj hk W
  obtain ⟨gb, capb, curb, e, _⟩ := own_form h2 (by omega)
  obtain ⟨b, q, c, rfl, hb, hc, hcell⟩ := Rd.form (Rd.of_own h2) (by omega)
  obtain ⟨c0, c1⟩ := obC_get ho hv
  injection e with e1 _ _
  injection e1 with e1
  injection e1 with e2 e3 _
  subst e2; subst e3
  refine ⟨b, 0 + n * 2, _, cf, fun W => hix W, hcell _ _ c1, rfl, fun i hi W => ?_, rfl, _, h2⟩
  have := Rd.ixN (P := Try.prog) (OwnW.rd hr) Try.underlying70 one_u64 hi W
  simpa [cellAt] using this
theorem OwnO.f {w : World} {base : Nat} {v : Value} {L : List Ob} (h : OwnO w base v L) {n : Nat} {o : Ob} (ho : L[n]? = some o) (hf : 0 < o.fs.length) : ∃ gf, OwnF w base v L n gf := by
  obtain ⟨b, q, gf, nf, cf, h1, h2, h3, h4, h5, _⟩ := h.at_ ho hf
  exact ⟨gf, h5⟩
/-- a store below the base of a row -/
theorem own_apart {w : World} {B e sz n p i : Nat} {v u : Value} {xs : List Value} (h : w.ownsRow B e sz v n xs) (hp : p < B) : (w.setCell ⟨p, i, none⟩ u).ownsRow B e sz v n xs := by
  refine World.ownsRow.kept h (grown_set w ⟨p, i, none⟩ u) ?_
  cases hv : v.ownBlock with
  | none => exact .inl rfl
  | some g => exact .inr (fun e => by injection e with e; subst e; have := (h.lt g hv).1; omega)
theorem OwnM.apart {w : World} {B p i : Nat} {tv ov sv u : Value} {m : Mo} (h : OwnM w B 67 tv ov sv m) (hp : p < B) : OwnM (w.setCell ⟨p, i, none⟩ u) B 67 tv ov sv m := by
  obtain ⟨⟨vs, a1, a2, a4⟩, ⟨vs', b1, b2, b4, b5⟩, hs⟩ := h
  exact ⟨⟨vs, a1, own_apart a2 hp, fun i x l h5 h6 => own_apart (a4 i x l h5 h6) hp⟩, ⟨vs', b1, own_apart b2 hp, fun i x l h5 h6 => own_apart (b4 i x l h5 h6) hp, b5⟩, own_apart hs hp⟩
theorem OwnF.apart {w : World} {B p i n gf : Nat} {v u : Value} {L : List Ob} (h : OwnF w B v L n gf) (hp : p < B) : OwnF (w.setCell ⟨p, i, none⟩ u) B v L n gf := by
  obtain ⟨vs, nf, cf, b1, b2, b4, b5, b6⟩ := h
  exact ⟨vs, nf, cf, b1, own_apart b2 hp, fun i x l h5 h6 => own_apart (b4 i x l h5 h6) hp, b5, b6⟩
/-- a model of the call's own whose blocks lie below top, and where the fields of its object n lie -/
def OwnV (w : World) (base top : Nat) (tv ov sv : Value) (m : Mo) (n gf : Nat) : Prop :=
  (∃ vt : List Value, vt.length = m.types.length ∧ w.ownsRow base 74 1 tv m.types.length vt ∧ (∀ (i : Nat) x l, vt[i]? = some x → m.types[i]? = some l → OwnB w base 5 x l ∧ ∀ g, x.ownBlock = some g → g < top)) ∧
  (∃ (vs : List Value) (nf cf : Nat), vs.length = m.objs.length ∧ w.ownsRow base 72 2 ov m.objs.length (obC m.objs vs) ∧ (∀ (i : Nat) x o, vs[i]? = some x → m.objs[i]? = some o → OwnW w base 29 x o.fs ∧ ∀ g, x.ownBlock = some g → g < top) ∧
    (∀ (i j : Nat) x y, i ≠ j → vs[i]? = some x → vs[j]? = some y → x.ownBlock = none ∨ x.ownBlock ≠ y.ownBlock) ∧ vs[n]? = some (.slice (some ⟨gf, 0, none⟩) nf cf)) ∧
  OwnS w base 67 sv m.slots ∧ (∀ g, tv.ownBlock = some g → g < top) ∧ (∀ g, ov.ownBlock = some g → g < top) ∧ (∀ g, sv.ownBlock = some g → g < top)
theorem OwnV.of {w : World} {base n gf : Nat} {tv ov sv : Value} {m : Mo} (h : OwnM w base 67 tv ov sv m) (hf : OwnF w base ov m.objs n gf) : OwnV w base w.heap.size tv ov sv m n gf := by
  obtain ⟨⟨vt, a1, a2, a4⟩, _, hs⟩ := h
  obtain ⟨vs, nf, cf, b1, b2, b4, b5, b6⟩ := hf
  exact ⟨⟨vt, a1, a2, fun i x l h1 h2 => ⟨a4 i x l h1 h2, fun g hg => ((a4 i x l h1 h2).lt g hg).2⟩⟩, ⟨vs, nf, cf, b1, b2, fun i x o h1 h2 => ⟨b4 i x o h1 h2, fun g hg => (World.ownsRow.lt (b4 i x o h1 h2) g hg).2⟩, b5, b6⟩, hs,
    fun g hg => (a2.lt g hg).2, fun g hg => (b2.lt g hg).2, fun g hg => (World.ownsRow.lt hs g hg).2⟩
theorem OwnV.m {w : World} {base top n gf : Nat} {tv ov sv : Value} {m : Mo} (h : OwnV w base top tv ov sv m n gf) : OwnM w base 67 tv ov sv m := by
  obtain ⟨⟨vt, a1, a2, a4⟩, ⟨vs, nf, cf, b1, b2, b4, b5, b6⟩, hs, _⟩ := h
  exact ⟨⟨vt, a1, a2, fun i x l h1 h2 => (a4 i x l h1 h2).1⟩, ⟨vs, b1, b2, fun i x o h1 h2 => (b4 i x o h1 h2).1, b5⟩, hs⟩
theorem OwnV.f {w : World} {base top n gf : Nat} {tv ov sv : Value} {m : Mo} (h : OwnV w base top tv ov sv m n gf) : OwnF w base ov m.objs n gf := by
  obtain ⟨_, ⟨vs, nf, cf, b1, b2, b4, b5, b6⟩, _⟩ := h
  exact ⟨vs, nf, cf, b1, b2, fun i x o h1 h2 => (b4 i x o h1 h2).1, b5, b6⟩
theorem OwnV.lt {w : World} {base top n gf : Nat} {tv ov sv : Value} {m : Mo} (h : OwnV w base top tv ov sv m n gf) (hn : n < m.objs.length) : gf < top := by
  obtain ⟨_, ⟨vs, nf, cf, b1, b2, b4, b5, b6⟩, _⟩ := h
  exact (b4 n _ _ b6 (List.getElem?_eq_getElem hn)).2 gf rfl
/-- it stays in a world in which all rows stay -/
theorem OwnV.map {w w' : World} {base top n gf : Nat} {tv ov sv : Value} {m : Mo} (h : OwnV w base top tv ov sv m n gf)
    (hr : ∀ (e sz k : Nat) (v : Value) (xs : List Value), w.ownsRow base e sz v k xs → (e = 74 ∨ e = 5 ∨ e = 72 ∨ e = 29 ∨ e = 67) → (∀ g, v.ownBlock = some g → g < top) → w'.ownsRow base e sz v k xs) : OwnV w' base top tv ov sv m n gf := by
  obtain ⟨⟨vt, a1, a2, a4⟩, ⟨vs, nf, cf, b1, b2, b4, b5, b6⟩, hs, t1, t2, t3⟩ := h
  exact ⟨⟨vt, a1, hr _ _ _ _ _ a2 (.inl rfl) t1, fun i x l h1 h2 => ⟨hr _ _ _ _ _ (a4 i x l h1 h2).1 (.inr (.inl rfl)) (a4 i x l h1 h2).2, (a4 i x l h1 h2).2⟩⟩,
    ⟨vs, nf, cf, b1, hr _ _ _ _ _ b2 (.inr (.inr (.inl rfl))) t2, fun i x o h1 h2 => ⟨hr _ _ _ _ _ (b4 i x o h1 h2).1 (.inr (.inr (.inr (.inl rfl)))) (b4 i x o h1 h2).2, (b4 i x o h1 h2).2⟩, b5, b6⟩,
    hr _ _ _ _ _ hs (.inr (.inr (.inr (.inr rfl)))) t3, t1, t2, t3⟩
theorem OwnV.below {w w' : World} {base top n gf : Nat} {tv ov sv : Value} {m : Mo} (h : OwnV w base top tv ov sv m n gf) (hb : Below w.heap.size w w') : OwnV w' base top tv ov sv m n gf :=
  h.map fun _ _ _ _ _ h1 _ _ => own_below h1 hb
theorem OwnV.set {w : World} {base top n gf p i : Nat} {tv ov sv u : Value} {m : Mo} {cs : Array Value} (h : OwnV w base top tv ov sv m n gf) (hg : Bx w p 26 cs) : OwnV (w.setCell ⟨p, i, none⟩ u) base top tv ov sv m n gf :=
  h.map fun _ _ _ _ _ h1 h2 _ => own_set h1 hg (by rcases h2 with rfl | rfl | rfl | rfl | rfl <;> decide)
theorem OwnV.far {w : World} {base top n gf p i : Nat} {tv ov sv u : Value} {m : Mo} (h : OwnV w base top tv ov sv m n gf) (hp : top ≤ p) : OwnV (w.setCell ⟨p, i, none⟩ u) base top tv ov sv m n gf :=
  h.map fun _ _ _ v _ h1 _ h3 => World.ownsRow.kept h1 (grown_set w ⟨p, i, none⟩ u) (by
    cases hv : v.ownBlock with
    | none => exact .inl rfl
    | some g => exact .inr (fun e => by injection e with e; subst e; have := h3 g hv; omega))
theorem OwnV.mono {w : World} {base top top' n gf : Nat} {tv ov sv : Value} {m : Mo} (h : OwnV w base top tv ov sv m n gf) (hp : top ≤ top') : OwnV w base top' tv ov sv m n gf := by
  obtain ⟨⟨vt, a1, a2, a4⟩, ⟨vs, nf, cf, b1, b2, b4, b5, b6⟩, hs, t1, t2, t3⟩ := h
  exact ⟨⟨vt, a1, a2, fun i x l h1 h2 => ⟨(a4 i x l h1 h2).1, fun g hg => Nat.lt_of_lt_of_le ((a4 i x l h1 h2).2 g hg) hp⟩⟩, ⟨vs, nf, cf, b1, b2, fun i x o h1 h2 => ⟨(b4 i x o h1 h2).1, fun g hg => Nat.lt_of_lt_of_le ((b4 i x o h1 h2).2 g hg) hp⟩, b5, b6⟩, hs,
    fun g hg => Nat.lt_of_lt_of_le (t1 g hg) hp, fun g hg => Nat.lt_of_lt_of_le (t2 g hg) hp, fun g hg => Nat.lt_of_lt_of_le (t3 g hg) hp⟩
theorem OwnV.base {w : World} {base base' top n gf : Nat} {tv ov sv : Value} {m : Mo} (h : OwnV w base top tv ov sv m n gf) (hp : base' ≤ base) : OwnV w base' top tv ov sv m n gf := by
  obtain ⟨⟨vt, a1, a2, a4⟩, ⟨vs, nf, cf, b1, b2, b4, b5, b6⟩, hs, t1, t2, t3⟩ := h
  exact ⟨⟨vt, a1, own_mono a2 hp, fun i x l h1 h2 => ⟨own_mono (a4 i x l h1 h2).1 hp, (a4 i x l h1 h2).2⟩⟩, ⟨vs, nf, cf, b1, own_mono b2 hp, fun i x o h1 h2 => ⟨own_mono (b4 i x o h1 h2).1 hp, (b4 i x o h1 h2).2⟩, b5, b6⟩, own_mono hs hp, t1, t2, t3⟩
theorem OwnF.nb {w : World} {base n gf p : Nat} {v : Value} {L : List Ob} {t : TypeId} {cs : Array Value} (h : OwnF w base v L n gf) (ho : n < L.length) (hg : Bx w p t cs) (hne : 29 ≠ t) : gf ≠ p := by
  obtain ⟨vs, nf, cf, b1, b2, b4, b5, b6⟩ := h
  have hr := b4 n _ _ b6 (List.getElem?_eq_getElem ho)
  rcases own_not_bx hr hg hne with h | h
  · simp [Value.ownBlock] at h
  · intro e; exact h (by simp [Value.ownBlock, e])
theorem OwnF.nr {w : World} {base base' n gf b k sz : Nat} {v v' : Value} {L : List Ob} {xs : List Value} (h : OwnF w base v L n gf) (ho : n < L.length) (hr' : w.ownsRow base' 72 sz v' k xs) (hv : v'.ownBlock = some b) : b ≠ gf := by
  obtain ⟨vs, nf, cf, b1, b2, b4, b5, b6⟩ := h
  have hr := b4 n _ _ b6 (List.getElem?_eq_getElem ho)
  rcases own_unlike hr' hr (by decide) with h | h
  · rw [hv] at h; cases h
  · intro e; exact h (by rw [hv, e]; rfl)
theorem setCell_swap {w : World} {p q : Addr} {u v : Value} (h : p.block ≠ q.block) : (w.setCell p u).setCell q v = (w.setCell q v).setCell p u := by
  unfold World.setCell
  congr 1
  apply Array.ext
  · simp
  · intro i h1 h2
    simp only [Array.getElem_modify]
    by_cases h3 : q.block = i <;> by_cases h4 : p.block = i <;> simp [h3, h4]
    omega
/-- two stores into fields of two models of the call's own, of which the second one lies above the first one -/
theorem two_fields {w : World} {z z2 n gx gy i : Nat} {t1 o1 s1 t2 o2 s2 : Value} {a b : Mo} {oa ob' : Ob} {x0 y0 : UInt64} (ha : OwnV w z z2 t1 o1 s1 a n gx) (hb : OwnM w z2 67 t2 o2 s2 b) (hy : OwnF w z2 o2 b.objs n gy)
    (h1 : a.objs[n]? = some oa) (h2 : oa.fs[i]? = some x0) (h3 : b.objs[n]? = some ob') (h4 : ob'.fs[i]? = some y0) :
    OwnF (w.setCell ⟨gx, i, none⟩ (.int .u64 0)) z2 o2 b.objs n gy ∧ OwnF (w.setCell ⟨gx, i, none⟩ (.int .u64 0)) z o1 (putF a n i 0).objs n gx ∧
      Mod ((w.setCell ⟨gx, i, none⟩ (.int .u64 0)).setCell ⟨gy, i, none⟩ (.int .u64 0)) t1 o1 s1 (putF a n i 0) ∧ Mod ((w.setCell ⟨gx, i, none⟩ (.int .u64 0)).setCell ⟨gy, i, none⟩ (.int .u64 0)) t2 o2 s2 (putF b n i 0) := by
  have hg := ha.lt (List.getElem?_eq_some_iff.1 h1).1
  have e0 : UInt64.toNat 0 = 0 := rfl
  have S := OwnM.storeF ha.m ha.f h1 h2 0
  rw [e0] at S
  have hb' : OwnM (w.setCell ⟨gx, i, none⟩ (.int .u64 0)) z2 67 t2 o2 s2 b := hb.apart hg
  have hy' : OwnF (w.setCell ⟨gx, i, none⟩ (.int .u64 0)) z2 o2 b.objs n gy := hy.apart hg
  have S2 := OwnM.storeF hb' hy' h3 h4 0
  rw [e0] at S2
  have hgy := (hy'.cell h3 h4).2.2
  refine ⟨hy', S.2.1, ?_, S2.1.rd⟩
  have hf : OwnV (w.setCell ⟨gy, i, none⟩ (.int .u64 0)) z z2 t1 o1 s1 a n gx := ha.far hgy.1
  have S3 := OwnM.storeF hf.m hf.f h1 h2 0
  rw [e0] at S3
  rw [setCell_swap (by show gx ≠ gy; omega)]
  exact S3.1.rd
end Go.Proofs.Ytgjpohhafmkhcaa
namespace Go.Proofs.Ytgjpohhafmkhcaa
open Go.RowKit L02 L13 L18 L20
/-- what is fresh in the region of the two copies -/
structure GU where
  a1 : Option Addr
  n1 : Nat
  c1 : Nat
  a2 : Option Addr
  n2 : Nat
  c2 : Nat
  a3 : Option Addr
  n3 : Nat
  c3 : Nat
  b1 : Option Addr
  m1 : Nat
  d1 : Nat
  b2 : Option Addr
  m2 : Nat
  d2 : Nat
  b3 : Option Addr
  m3 : Nat
  d3 : Nat
  gx : Nat
  z2 : Nat
  p4 : Nat
  p5 : Nat
def GU.x (g : GU) : Value × Value × Value := (.slice g.a1 g.n1 g.c1, .slice g.a2 g.n2 g.c2, .slice g.a3 g.n3 g.c3)
def GU.y (g : GU) : Value × Value × Value := (.slice g.b1 g.m1 g.d1, .slice g.b2 g.m2 g.d2, .slice g.b3 g.m3 g.d3)
def valU (g : GU) (k : Nat) : Value := if k = 1 then .agg #[.slice g.a1 g.n1 g.c1, .slice g.a2 g.n2 g.c2, .slice g.a3 g.n3 g.c3] else if k = 3 then .agg #[.slice g.b1 g.m1 g.d1, .slice g.b2 g.m2 g.d2, .slice g.b3 g.m3 g.d3] else if k = 4 then .pointer (some ⟨g.p4, 0, none⟩) else .pointer (some ⟨g.p5, 0, none⟩)
def AgU (φ : Nat → Bool) (g g' : GU) : Prop := (φ 1 = true → g.x = g'.x ∧ g.gx = g'.gx) ∧ (φ 3 = true → g.y = g'.y ∧ g.z2 = g'.z2) ∧ (φ 4 = true → g.p4 = g'.p4) ∧ (φ 5 = true → g.p5 = g'.p5)
structure FU (w : World) (z : Nat) (a b : Mo) (n : Nat) (g : GU) (φ : Nat → Bool) (W : World) : Prop where
  hb : Below w.heap.size w W
  hz : z ≤ W.heap.size
  x : φ 1 = true → OwnV W z (if φ 3 = true then g.z2 else W.heap.size) g.x.1 g.x.2.1 g.x.2.2 a n g.gx
  o : φ 3 = true → φ 1 = true ∧ z ≤ g.z2
  y : φ 3 = true → OwnM W g.z2 67 g.y.1 g.y.2.1 g.y.2.2 b
  o6 : φ 6 = true → φ 4 = true ∧ φ 1 = true
  o7 : φ 7 = true → φ 5 = true ∧ φ 3 = true
  p4 : φ 4 = true → z ≤ g.p4 ∧ Bx W g.p4 26 (if φ 6 = true then #[g.x.1, g.x.2.1, g.x.2.2] else #[.slice none 0 0, .slice none 0 0, .slice none 0 0])
  p5 : φ 5 = true → z ≤ g.p5 ∧ Bx W g.p5 26 (if φ 7 = true then #[g.y.1, g.y.2.1, g.y.2.2] else #[.slice none 0 0, .slice none 0 0, .slice none 0 0])
  ne : φ 4 = true → φ 5 = true → g.p4 ≠ g.p5
theorem FU.dep {w : World} {z n : Nat} {a b : Mo} {g : GU} : Dep (FU w z a b n g) [1, 3, 4, 5, 6, 7] := by
  rintro φ ψ W h ⟨h1, h2, h3, h4, h5, h6, h7, h8, h9, h10⟩
  have e1 := h 1 (by simp); have e3 := h 3 (by simp); have e4 := h 4 (by simp); have e5 := h 5 (by simp); have e6 := h 6 (by simp); have e7 := h 7 (by simp)
  rw [e1, e3] at h3; rw [e3, e1] at h4; rw [e3] at h5; rw [e6, e4, e1] at h6; rw [e7, e5, e3] at h7; rw [e4, e6] at h8; rw [e5, e7] at h9; rw [e4, e5] at h10
  exact ⟨h1, h2, h3, h4, h5, h6, h7, h8, h9, h10⟩
theorem FU.agree {w : World} {z n : Nat} {a b : Mo} {g g' : GU} {φ : Nat → Bool} {W : World} (hA : AgU φ g g') (h : FU w z a b n g φ W) : FU w z a b n g' φ W := by
  obtain ⟨A1, A3, A4, A5⟩ := hA
  refine ⟨h.hb, h.hz, fun e => ?_, fun e => ⟨(h.o e).1, by rw [← (A3 e).2]; exact (h.o e).2⟩, fun e => by rw [← (A3 e).1, ← (A3 e).2]; exact h.y e, h.o6, h.o7, fun e => ?_, fun e => ?_, fun e e' => by rw [← A4 e, ← A5 e']; exact h.ne e e'⟩
  · have := h.x e
    rw [← (A1 e).1, ← (A1 e).2]
    cases e3 : φ 3
    · simpa [e3, GU.x] using this
    · rw [← (A3 e3).2]; simpa [e3, GU.x] using this
  · have := h.p4 e
    rw [← A4 e]
    cases e6 : φ 6
    · simpa [e6] using this
    · rw [← (A1 (h.o6 e6).2).1]; simpa [e6] using this
  · have := h.p5 e
    rw [← A5 e]
    cases e7 : φ 7
    · simpa [e7] using this
    · rw [← (A3 (h.o7 e7).2).1]; simpa [e7] using this
def TU (av bv : Array Value) (k : Nat) (s : Sem Next) : Prop := if k = 1 then (∀ W, s.run Try.prog W = .ok (.enter 10 av) W) else if k = 3 then (∀ W, s.run Try.prog W = .ok (.enter 10 bv) W) else ∀ W, s.run Try.prog W = .ok (.value (.pointer (some ⟨W.heap.size, 0, none⟩))) (W.alloc (.cells #[.slice none 0 0, .slice none 0 0, .slice none 0 0] 26))
theorem FU.step {w : World} {z n : Nat} {a b : Mo} {t1 o1 s1 t2 o2 s2 : Value} {oa : Ob} (hw : w.heap.size ≤ z) (hsa : Small a) (hsb : Small b) (ho : a.objs[n]? = some oa) (hf : 0 < oa.fs.length) (h1 : ∀ W, Below w.heap.size w W → Mod W t1 o1 s1 a) (h2 : ∀ W, Below w.heap.size w W → Mod W t2 o2 s2 b) :
    ∀ k s (φ : Nat → Bool) W g, k ∈ [1, 3, 4, 5] → TU #[.agg #[t1, o1, s1]] #[.agg #[t2, o2, s2]] k s → φ k = false → (∀ j ∈ (if k = 3 then [1] else []), φ j = true) → FU w z a b n g φ W →
      uponN Try.prog (fun v W' => ∃ g', AgU φ g g' ∧ v = valU g' k ∧ FU w z a b n g' (fun i => i == k || φ i) W') (s.run Try.prog W) := by
  intro k s φ W g hk hT h0 hd hF
  simp only [List.mem_cons, List.not_mem_nil, or_false] at hk
  rcases hk with rfl | rfl | rfl | rfl
  · have hT' : ∀ W, s.run Try.prog W = .ok (.enter 10 #[.agg #[t1, o1, s1]]) W := hT
    have h3 : φ 3 = false := by
      cases e : φ 3
      · rfl
      · have := (hF.o e).1; rw [h0] at this; cases this
    have h6 : φ 6 = false := by
      cases e : φ 6
      · rfl
      · have := (hF.o6 e).2; rw [h0] at this; cases this
    rw [hT' W]
    refine (Twin_any t1 o1 s1 a hsa W (h1 W hF.hb)).mono ?_
    rintro e W' ⟨t', o', s', rfl, om, bb⟩
    obtain ⟨⟨tA, tn, tc, rfl⟩, ⟨oA, on, oc, rfl⟩, ⟨sA, sn, sc, rfl⟩⟩ := om.rd.forms
    obtain ⟨gf, of_⟩ := om.o.f ho hf
    refine ⟨_, rfl, { g with a1 := tA, n1 := tn, c1 := tc, a2 := oA, n2 := on, c2 := oc, a3 := sA, n3 := sn, c3 := sc, gx := gf }, ⟨fun e => (by rw [h0] at e; cases e), fun _ => ⟨rfl, rfl⟩, fun _ => rfl, fun _ => rfl⟩, rfl, hF.hb.trans (bb.mono hF.hb.size), Nat.le_trans hF.hz bb.size, fun e => ?_, fun e => (by simp [h3] at e), fun e => (by simp [h3] at e), fun e => (by simp [h6] at e), fun e => ?_, fun e => ?_, fun e => ?_, fun e e' => hF.ne (by simpa using e) (by simpa using e')⟩
    · simp only [h3]
      exact (OwnV.of om of_).base hF.hz
    · have := hF.o7 (by simpa using e); rw [h3] at this; exact absurd this.2 (by simp)
    · have := hF.p4 (by simpa using e)
      refine ⟨this.1, ?_⟩
      have h := this.2
      simp only [h6] at h ⊢
      exact h.below bb
    · have := hF.p5 (by simpa using e)
      have h7 : φ 7 = false := by
        cases e : φ 7
        · rfl
        · have := (hF.o7 e).2; rw [h3] at this; cases this
      refine ⟨this.1, ?_⟩
      have h := this.2
      simp only [h7] at h ⊢
      exact h.below bb
  · have hT' : ∀ W, s.run Try.prog W = .ok (.enter 10 #[.agg #[t2, o2, s2]]) W := hT
    have e1 : φ 1 = true := hd 1 (by simp)
    have h7 : φ 7 = false := by
      cases e : φ 7
      · rfl
      · have := (hF.o7 e).2; rw [h0] at this; cases this
    rw [hT' W]
    refine (Twin_any t2 o2 s2 b hsb W (h2 W hF.hb)).mono ?_
    rintro e W' ⟨t', o', s', rfl, om, bb⟩
    obtain ⟨⟨tA, tn, tc, rfl⟩, ⟨oA, on, oc, rfl⟩, ⟨sA, sn, sc, rfl⟩⟩ := om.rd.forms
    refine ⟨_, rfl, { g with b1 := tA, m1 := tn, d1 := tc, b2 := oA, m2 := on, d2 := oc, b3 := sA, m3 := sn, d3 := sc, z2 := W.heap.size }, ⟨fun _ => ⟨rfl, rfl⟩, fun e => (by rw [h0] at e; cases e), fun _ => rfl, fun _ => rfl⟩, rfl, hF.hb.trans (bb.mono hF.hb.size), Nat.le_trans hF.hz bb.size, fun _ => ?_, fun _ => ⟨by simp [e1], hF.hz⟩, fun _ => om, fun e => ?_, fun e => (by simp [h7] at e), fun e => ?_, fun e => ?_, fun e e' => hF.ne (by simpa using e) (by simpa using e')⟩
    · have := hF.x e1
      simp only [h0] at this
      simp only [beq_self_eq_true, Bool.true_or, if_true]
      exact this.below bb
    · have := hF.o6 (by simpa using e)
      simpa using this
    · have := hF.p4 (by simpa using e)
      refine ⟨this.1, ?_⟩
      have h := this.2.below bb
      simpa [GU.x] using h
    · have := hF.p5 (by simpa using e)
      refine ⟨this.1, ?_⟩
      have h := this.2
      simp only [h7] at h ⊢
      exact h.below bb
  all_goals
    have hT' : ∀ W, s.run Try.prog W = .ok (.value (.pointer (some ⟨W.heap.size, 0, none⟩))) (W.alloc (.cells #[.slice none 0 0, .slice none 0 0, .slice none 0 0] 26)) := hT
    have bb : Below W.heap.size W (W.alloc (.cells #[.slice none 0 0, .slice none 0 0, .slice none 0 0] 26)) := (Below.refl _ _).alloc (Nat.le_refl _) _
    rw [hT' W]
  · have h6 : φ 6 = false := by
      cases e : φ 6
      · rfl
      · have := (hF.o6 e).1; rw [h0] at this; cases this
    refine ⟨{ g with p4 := W.heap.size }, ⟨fun _ => ⟨rfl, rfl⟩, fun _ => ⟨rfl, rfl⟩, fun e => (by rw [h0] at e; cases e), fun _ => rfl⟩, rfl, hF.hb.trans (bb.mono hF.hb.size), Nat.le_trans hF.hz bb.size, fun e => ?_, fun e => by simpa using hF.o (by simpa using e), fun e => (hF.y (by simpa using e)).below bb, fun e => (by simp [h6] at e), fun e => by simpa using hF.o7 (by simpa using e), fun _ => ⟨hF.hz, ?_⟩, fun e => ?_, fun _ e => ?_⟩
    · have := (hF.x (by simpa using e)).below bb
      cases e3 : φ 3
      · simp only [e3] at this ⊢
        exact this.mono bb.size
      · simpa [e3, GU.x] using this
    · simp only [h6]
      exact Bx.new _ _ _
    · have := hF.p5 (by simpa using e)
      refine ⟨this.1, ?_⟩
      simpa [GU.x, GU.y] using this.2.below bb
    · have := (hF.p5 (by simpa using e)).2.lt
      show W.heap.size ≠ g.p5
      omega
  · have h7 : φ 7 = false := by
      cases e : φ 7
      · rfl
      · have := (hF.o7 e).1; rw [h0] at this; cases this
    refine ⟨{ g with p5 := W.heap.size }, ⟨fun _ => ⟨rfl, rfl⟩, fun _ => ⟨rfl, rfl⟩, fun _ => rfl, fun e => (by rw [h0] at e; cases e)⟩, rfl, hF.hb.trans (bb.mono hF.hb.size), Nat.le_trans hF.hz bb.size, fun e => ?_, fun e => by simpa using hF.o (by simpa using e), fun e => (hF.y (by simpa using e)).below bb, fun e => by simpa using hF.o6 (by simpa using e), fun e => (by simp [h7] at e), fun e => ?_, fun _ => ⟨hF.hz, ?_⟩, fun e _ => ?_⟩
    · have := (hF.x (by simpa using e)).below bb
      cases e3 : φ 3
      · simp only [e3] at this ⊢
        exact this.mono bb.size
      · simpa [e3, GU.x] using this
    · have := hF.p4 (by simpa using e)
      refine ⟨this.1, ?_⟩
      simpa [GU.x, GU.y] using this.2.below bb
    · simp only [h7]
      exact Bx.new _ _ _
    · have := (hF.p4 (by simpa using e)).2.lt
      show g.p4 ≠ W.heap.size
      omega
/-- the stores of the two copies -/
theorem FU.store6 {w : World} {z n : Nat} {a b : Mo} {g : GU} (hw : w.heap.size ≤ z) : ∀ (f : Nat → Bool) (W : World), FU w z a b n g f W → f 6 = false → (∀ j ∈ [4, 1, 3], f j = true) →
    ∃ W', (Instr.storeAt 26 (.pointer (some ⟨g.p4, 0, none⟩)) (.agg #[.slice g.a1 g.n1 g.c1, .slice g.a2 g.n2 g.c2, .slice g.a3 g.n3 g.c3])).run Try.prog W = .ok () W' ∧ FU w z a b n g (fun i => i == 6 || f i) W' := by
  intro f W hF h0 h1
  have e4 := h1 4 (by simp); have e1 := h1 1 (by simp); have e3 := h1 3 (by simp)
  obtain ⟨x1, x2⟩ := hF.p4 e4
  rw [h0] at x2
  have x3 : Bx W g.p4 26 #[.slice none 0 0, .slice none 0 0, .slice none 0 0] := x2
  have k0 := x3.cell; have kf := x3.free
  have x4 := x3.set (i := 0) (.slice g.a1 g.n1 g.c1)
  have x5 := x4.set (i := 1) (.slice g.a2 g.n2 g.c2)
  have x6 := x5.set (i := 2) (.slice g.a3 g.n3 g.c3)
  have hX := hF.x e1
  rw [e3, if_pos rfl] at hX
  refine ⟨((W.setCell ⟨g.p4, 0, none⟩ (.slice g.a1 g.n1 g.c1)).setCell ⟨g.p4, 1, none⟩ (.slice g.a2 g.n2 g.c2)).setCell ⟨g.p4, 2, none⟩ (.slice g.a3 g.n3 g.c3), by simp [go_sem, k0, kf], ⟨((hF.hb.setCell (p := ⟨g.p4, 0, none⟩) (Nat.le_trans hw x1) _).setCell (p := ⟨g.p4, 1, none⟩) (Nat.le_trans hw x1) _).setCell (p := ⟨g.p4, 2, none⟩) (Nat.le_trans hw x1) _, by simpa [World.setCell] using hF.hz, fun _ => ?_, fun _ => by simpa [e1] using hF.o e3, fun _ => OwnM.set3 (hF.y e3) x3, fun _ => by simp [e4, e1], fun e => by simpa using hF.o7 (by simpa using e), fun _ => ⟨x1, ?_⟩, fun e => ?_, fun _ e => hF.ne e4 (by simpa using e)⟩⟩
  · simp only [e3]
    exact ((hX.set x3).set x4).set x5
  · simpa [GU.x] using x6
  · have e5 : f 5 = true := by simpa using e
    have := hF.p5 e5
    have hne : g.p5 ≠ g.p4 := Ne.symm (hF.ne e4 e5)
    refine ⟨this.1, ?_⟩
    have h := ((this.2.far (p := ⟨g.p4, 0, none⟩) hne (.slice g.a1 g.n1 g.c1)).far (p := ⟨g.p4, 1, none⟩) hne (.slice g.a2 g.n2 g.c2)).far (p := ⟨g.p4, 2, none⟩) hne (.slice g.a3 g.n3 g.c3)
    simpa [GU.x] using h
theorem FU.store7 {w : World} {z n : Nat} {a b : Mo} {g : GU} (hw : w.heap.size ≤ z) : ∀ (f : Nat → Bool) (W : World), FU w z a b n g f W → f 7 = false → (∀ j ∈ [5, 3, 6], f j = true) →
    ∃ W', (Instr.storeAt 26 (.pointer (some ⟨g.p5, 0, none⟩)) (.agg #[.slice g.b1 g.m1 g.d1, .slice g.b2 g.m2 g.d2, .slice g.b3 g.m3 g.d3])).run Try.prog W = .ok () W' ∧ FU w z a b n g (fun i => i == 7 || f i) W' := by
  intro f W hF h0 h1
  have e5 := h1 5 (by simp); have e6 := h1 6 (by simp); have e3 := h1 3 (by simp)
  obtain ⟨e4, e1⟩ := hF.o6 e6
  obtain ⟨x1, x2⟩ := hF.p5 e5
  rw [h0] at x2
  have x3 : Bx W g.p5 26 #[.slice none 0 0, .slice none 0 0, .slice none 0 0] := x2
  have k0 := x3.cell; have kf := x3.free
  have x4 := x3.set (i := 0) (.slice g.b1 g.m1 g.d1)
  have x5 := x4.set (i := 1) (.slice g.b2 g.m2 g.d2)
  have x6 := x5.set (i := 2) (.slice g.b3 g.m3 g.d3)
  have hX := hF.x e1
  rw [e3, if_pos rfl] at hX
  refine ⟨((W.setCell ⟨g.p5, 0, none⟩ (.slice g.b1 g.m1 g.d1)).setCell ⟨g.p5, 1, none⟩ (.slice g.b2 g.m2 g.d2)).setCell ⟨g.p5, 2, none⟩ (.slice g.b3 g.m3 g.d3), by simp [go_sem, k0, kf], ⟨((hF.hb.setCell (p := ⟨g.p5, 0, none⟩) (Nat.le_trans hw x1) _).setCell (p := ⟨g.p5, 1, none⟩) (Nat.le_trans hw x1) _).setCell (p := ⟨g.p5, 2, none⟩) (Nat.le_trans hw x1) _, by simpa [World.setCell] using hF.hz, fun _ => ?_, fun _ => by simpa [e1] using hF.o e3, fun _ => OwnM.set3 (hF.y e3) x3, fun _ => by simp [e4, e1], fun _ => by simp [e5, e3], fun _ => ?_, fun _ => ⟨x1, ?_⟩, fun _ _ => hF.ne e4 e5⟩⟩
  · simp only [e3]
    exact ((hX.set x3).set x4).set x5
  · have := hF.p4 e4
    have hne : g.p4 ≠ g.p5 := hF.ne e4 e5
    refine ⟨this.1, ?_⟩
    have h := ((this.2.far (p := ⟨g.p5, 0, none⟩) hne (.slice g.b1 g.m1 g.d1)).far (p := ⟨g.p5, 1, none⟩) hne (.slice g.b2 g.m2 g.d2)).far (p := ⟨g.p5, 2, none⟩) hne (.slice g.b3 g.m3 g.d3)
    simpa [GU.x] using h
  · simpa [GU.y] using x6
/-- the worlds of the two stores -/
def wsU (W : World) (gx gy i : Nat) : Nat → World
  | 0 => W.drew
  | 1 => W.drew.setCell ⟨gx, i, none⟩ (.int .u64 0)
  | _ + 2 => (W.drew.setCell ⟨gx, i, none⟩ (.int .u64 0)).setCell ⟨gy, i, none⟩ (.int .u64 0)
end Go.Proofs.Ytgjpohhafmkhcaa
namespace Go.Proofs.Ytgjpohhafmkhcaa
open Go.RowKit L02 L13 L18 L20
set_option maxRecDepth 100000 in
set_option maxHeartbeats 8000000 in
theorem but_any (t1 o1 s1 t2 o2 s2 : Value) (a : Mo) (n i : Nat) (v : UInt64) (oa : Ob) (x0 : UInt64) (hsa : Small a) (ho : a.objs[n]? = some oa) (hx : oa.fs[i]? = some x0) (w : World) (h1 : Mod w t1 o1 s1 a) (h2 : Mod w t2 o2 s2 (putF a n i v)) :
    Calls Try.prog 36 #[.agg #[t1, o1, s1], .agg #[t2, o2, s2], .int .i64 n, .int .i64 i] w fun e w' => e = .returned (.bool true) ∧ Below w.heap.size w w' := by
  have B : Below w.heap.size w w := Below.refl _ _
  obtain ⟨⟨t1A, t1n, t1c, rfl⟩, ⟨o1A, o1n, o1c, rfl⟩, ⟨s1A, s1n, s1c, rfl⟩⟩ := h1.forms
  obtain ⟨⟨t2A, t2n, t2c, rfl⟩, ⟨o2A, o2n, o2c, rfl⟩, ⟨s2A, s2n, s2c, rfl⟩⟩ := h2.forms
  have hn : n < a.objs.length := (List.getElem?_eq_some_iff.1 ho).1
  have hi : i < oa.fs.length := (List.getElem?_eq_some_iff.1 hx).1
  have hob : (putF a n i v).objs[n]? = some ⟨oa.ty, oa.fs.set i v⟩ := putF_obj ho
  have hx2 : (⟨oa.ty, oa.fs.set i v⟩ : Ob).fs[i]? = some v := List.getElem?_set_self hi
  have hbl : (putF a n i v).objs.length = a.objs.length := len_putF
  have heq : putF (putF a n i v) n i 0 = putF a n i 0 := L20.putF_putF hn
  have hsb : Small (putF a n i v) := by
    obtain ⟨x1, x2, x3, x4, x5⟩ := hsa
    refine ⟨x1, by rw [hbl]; exact x2, x3, x4, fun o ho' => ?_⟩
    rcases List.mem_or_eq_of_mem_set ho' with h | h
    · exact x5 o h
    · rw [h]
      show ((ob a n).fs.set i v).length ≤ 20
      rw [List.length_set]
      exact x5 _ (by rw [ob, List.getD_eq_getElem?_getD, ho]; exact List.mem_of_getElem? ho)
  have hl2 : (⟨oa.ty, oa.fs.set i v⟩ : Ob).fs.length = oa.fs.length := List.length_set
  obtain ⟨b, hb⟩ : ∃ b, b = putF a n i v := ⟨_, rfl⟩
  rw [← hb] at h2 hob hbl heq hsb
  obtain ⟨ob', hob'⟩ : ∃ o, o = (⟨oa.ty, oa.fs.set i v⟩ : Ob) := ⟨_, rfl⟩
  rw [← hob'] at hob hx2 hl2
  obtain ⟨N, hN⟩ : ∃ N, N = a.objs.length := ⟨_, rfl⟩
  obtain ⟨L, hL⟩ : ∃ N, N = oa.fs.length := ⟨_, rfl⟩
  have hnN : n < N := by omega
  have hiL : i < L := by omega
  have HN := Lib.hid (And.intro hN hL)
  have HB := Lib.hid (And.intro ho (And.intro hx (And.intro hob (And.intro hx2 (And.intro hbl (And.intro heq hl2))))))
  have HS := Lib.hid (And.intro hsa hsb)
  clear hb hob' hN hL ho hx hob hx2 hbl heq hl2 hsa hsb hn hi
  go_enter Try.func36, Try.ntmps36
  go_upto_region 1 with (fail)
  refine wp_gen (fun Wv => Bx Wv (w.heap.size) (26) (#[.slice t1A t1n t1c, .slice o1A o1n o1c, .slice s1A s1n s1c]) ∧ Bx Wv (w.heap.size + 1) (26) (#[.slice t2A t2n t2c, .slice o2A o2n o2c, .slice s2A s2n s2c]) ∧ Below w.heap.size w Wv) ⟨(((Bx.at_ (by simp)).alloc _)), ((Bx.at_ (by simp))), (((Below.refl _ w).alloc (by simp <;> omega) _).alloc (by simp <;> omega) _)⟩ ?_
  rintro wa1 ⟨g1, g2, b⟩
  replace h1 := h1.below b; replace h2 := h2.below b; replace B := B.trans (b.mono B.size); clear b
  have c_g1 := g1.cell; have f_g1 := g1.free; have a_g1 := fun o => (g1.alloc o).cell; have d_g1 := fun o o2 => ((g1.alloc o).alloc o2).cell; have e_g1 := fun o => (g1.alloc o).free
  have c_g2 := g2.cell; have f_g2 := g2.free; have a_g2 := fun o => (g2.alloc o).cell; have d_g2 := fun o o2 => ((g2.alloc o).alloc o2).cell; have e_g2 := fun o => (g2.alloc o).free
  have hz1 := B.size
  refine wp_region_M (G := GU) valU AgU (fun g => FU wa1 wa1.heap.size a b n g) [1, 3, 4, 5, 6, 7] [1, 3, 4, 5] (fun k => if k = 3 then [1] else []) (TU #[.agg #[.slice t1A t1n t1c, .slice o1A o1n o1c, .slice s1A s1n s1c]] #[.agg #[.slice t2A t2n t2c, .slice o2A o2n o2c, .slice s2A s2n s2c]]) ⟨none, 0, 0, none, 0, 0, none, 0, 0, none, 0, 0, none, 0, 0, none, 0, 0, 0, 0, 0, 0⟩ (fun g => FU.dep) (by kernel_rfl) (by kernel_rfl) (by kernel_rfl) (by kernel_rfl)
    (fun φ ψ g g' he h => ⟨fun e => h.1 (by rw [he 1 (by simp)]; exact e), fun e => h.2.1 (by rw [he 3 (by simp)]; exact e), fun e => h.2.2.1 (by rw [he 4 (by simp)]; exact e), fun e => h.2.2.2 (by rw [he 5 (by simp)]; exact e)⟩) (fun φ g => ⟨fun _ => ⟨rfl, rfl⟩, fun _ => ⟨rfl, rfl⟩, fun _ => rfl, fun _ => rfl⟩)
    (fun φ g g' g'' h1 h2 => ⟨fun e => ⟨(h1.1 e).1.trans (h2.1 e).1, (h1.1 e).2.trans (h2.1 e).2⟩, fun e => ⟨(h1.2.1 e).1.trans (h2.2.1 e).1, (h1.2.1 e).2.trans (h2.2.1 e).2⟩, fun e => (h1.2.2.1 e).trans (h2.2.2.1 e), fun e => (h1.2.2.2 e).trans (h2.2.2.2 e)⟩)
    (fun φ k g g' h hk => ⟨fun e => h.1 (by simp [e]), fun e => h.2.1 (by simp [e]), fun e => h.2.2.1 (by simp [e]), fun e => h.2.2.2 (by simp [e])⟩) ?_ (fun φ g g' W h hF => FU.agree h hF) (fun g => ⟨fun e => (by cases e), fun e => (by cases e), fun e => (by cases e), fun e => (by cases e)⟩)
    ⟨(Below.refl _ wa1).drew, Nat.le_refl _, fun e => (by cases e), fun e => (by cases e), fun e => (by cases e), fun e => (by cases e), fun e => (by cases e), fun e => (by cases e), fun e => (by cases e), fun e => (by cases e)⟩ (FU.step (Nat.le_refl _) HS.out.1 HS.out.2 HB.out.1 (by have := HN.out.2; omega) (fun W hb => h1.below hb) (fun W hb => h2.below hb)) ?_
  · intro φ k g g' hk h0 hA
    simp only [List.mem_cons, List.not_mem_nil, or_false] at hk
    rcases hk with rfl | rfl | rfl | rfl
    · have e := (hA.1 (by simp)).1
      simp only [GU.x, Prod.mk.injEq] at e
      simp [valU, e.1, e.2.1, e.2.2]
    · have e := (hA.2.1 (by simp)).1
      simp only [GU.y, Prod.mk.injEq] at e
      simp [valU, e.1, e.2.1, e.2.2]
    · have e := hA.2.2.1 (by simp)
      simp [valU, e]
    · have e := hA.2.2.2 (by simp)
      simp [valU, e]
  intro g
  have c_1 := fun x : FXN (FU wa1 wa1.heap.size a b n g) => (by obtain ⟨V, φ, hF⟩ := x; exact (g1.below hF.hb).cell : ∀ i, x.W.cell? ⟨w.heap.size, i, none⟩ = (#[.slice t1A t1n t1c, .slice o1A o1n o1c, .slice s1A s1n s1c] : Array Value)[i]?)
  have c_2 := fun x : FXN (FU wa1 wa1.heap.size a b n g) => (by obtain ⟨V, φ, hF⟩ := x; exact (g2.below hF.hb).cell : ∀ i, x.W.cell? ⟨w.heap.size + 1, i, none⟩ = (#[.slice t2A t2n t2c, .slice o2A o2n o2c, .slice s2A s2n s2c] : Array Value)[i]?)
  haveI : Nonempty (FXN (FU wa1 wa1.heap.size a b n g)) := ⟨⟨wa1.drew, fun _ => false, ⟨(Below.refl _ wa1).drew, Nat.le_refl _, fun e => (by cases e), fun e => (by cases e), fun e => (by cases e), fun e => (by cases e), fun e => (by cases e), fun e => (by cases e), fun e => (by cases e), fun e => (by cases e)⟩⟩⟩
  iterate 1 (refine wpM_read FU.dep rfl (by decide) (by decide) ?_; go_big_quiet_step (fail); refine wpQuiet_nil ?_)
  refine wpM_new (by decide) rfl (by show TU _ _ 1 _; unfold TU; rw [if_pos rfl]; intro W; simp [execOp, resolve, invoke, Act.eval, go_sem]) ?_
  simp only [Act.put, List.setIfInBounds_toArray, List.set_cons_zero, List.set_cons_succ]
  rw [show valU g 1 = .agg #[.slice g.a1 g.n1 g.c1, .slice g.a2 g.n2 g.c2, .slice g.a3 g.n3 g.c3] from rfl]
  iterate 1 (refine wpM_read FU.dep rfl (by decide) (by decide) ?_; go_big_quiet_step (fail); refine wpQuiet_nil ?_)
  refine wpM_new (by decide) rfl (by show TU _ _ 3 _; unfold TU; rw [if_neg (by decide), if_pos rfl]; intro W; simp [execOp, resolve, invoke, Act.eval, go_sem]) ?_
  simp only [Act.put, List.setIfInBounds_toArray, List.set_cons_zero, List.set_cons_succ]
  rw [show valU g 3 = .agg #[.slice g.b1 g.m1 g.d1, .slice g.b2 g.m2 g.d2, .slice g.b3 g.m3 g.d3] from rfl]
  refine wpM_new (by decide) rfl (by show TU _ _ 4 _; unfold TU; rw [if_neg (by decide), if_neg (by decide)]; intro W; simp [execOp, go_sem]) ?_
  simp only [Act.put, List.setIfInBounds_toArray, List.set_cons_zero, List.set_cons_succ]
  rw [show valU g 4 = .pointer (some ⟨g.p4, 0, none⟩) from rfl]
  refine wpM_new (by decide) rfl (by show TU _ _ 5 _; unfold TU; rw [if_neg (by decide), if_neg (by decide)]; intro W; simp [execOp, go_sem]) ?_
  simp only [Act.put, List.setIfInBounds_toArray, List.set_cons_zero, List.set_cons_succ]
  rw [show valU g 5 = .pointer (some ⟨g.p5, 0, none⟩) from rfl]
  refine wpM_store FU.dep (by decide) rfl 26 (.tmp 9) (.tmp 12) rfl (by rfl) (p := .pointer (some ⟨g.p4, 0, none⟩)) (u := .agg #[.slice g.a1 g.n1 g.c1, .slice g.a2 g.n2 g.c2, .slice g.a3 g.n3 g.c3]) (by rfl) (by rfl) [4, 1, 3] (by kernel_rfl) (FU.store6 (Nat.le_refl _)) ?_
  simp only [Act.put, List.setIfInBounds_toArray, List.set_cons_zero, List.set_cons_succ]
  refine wpM_store FU.dep (by decide) rfl 26 (.tmp 10) (.tmp 14) rfl (by rfl) (p := .pointer (some ⟨g.p5, 0, none⟩)) (u := .agg #[.slice g.b1 g.m1 g.d1, .slice g.b2 g.m2 g.d2, .slice g.b3 g.m3 g.d3]) (by rfl) (by rfl) [5, 3, 6] (by kernel_rfl) (FU.store7 (Nat.le_refl _)) ?_
  simp only [Act.put, List.setIfInBounds_toArray, List.set_cons_zero, List.set_cons_succ]
  refine wpM_nil ?_
  intro wy hF
  have V1 : OwnV wy wa1.heap.size g.z2 (.slice g.a1 g.n1 g.c1) (.slice g.a2 g.n2 g.c2) (.slice g.a3 g.n3 g.c3) a n g.gx := hF.x rfl
  have om2 : OwnM wy g.z2 67 (.slice g.b1 g.m1 g.d1) (.slice g.b2 g.m2 g.d2) (.slice g.b3 g.m3 g.d3) b := hF.y rfl
  have g4 : Bx wy g.p4 26 #[.slice g.a1 g.n1 g.c1, .slice g.a2 g.n2 g.c2, .slice g.a3 g.n3 g.c3] := (hF.p4 rfl).2
  have g5 : Bx wy g.p5 26 #[.slice g.b1 g.m1 g.d1, .slice g.b2 g.m2 g.d2, .slice g.b3 g.m3 g.d3] := (hF.p5 rfl).2
  have hz2 := (hF.o rfl).2
  replace B := B.trans (hF.hb.mono hz1)
  clear hF c_1 c_2 h1 h2 g1 g2 c_g1 f_g1 a_g1 d_g1 e_g1 c_g2 f_g2 a_g2 d_g2 e_g2
  generalize g.a1 = tA at *; generalize g.n1 = tn at *; generalize g.c1 = tc at *
  generalize g.a2 = oA at *; generalize g.n2 = on at *; generalize g.c2 = oc at *
  generalize g.a3 = sA at *; generalize g.n3 = sn at *; generalize g.c3 = sc at *
  generalize g.b1 = uA at *; generalize g.m1 = un at *; generalize g.d1 = uc at *
  generalize g.b2 = qA at *; generalize g.m2 = qn at *; generalize g.d2 = qc at *
  generalize g.b3 = rA at *; generalize g.m3 = rn at *; generalize g.d3 = rc at *
  generalize g.p4 = p4 at *; generalize g.p5 = p5 at *; generalize g.gx = gx at *; generalize g.z2 = z2 at *
  have lx := V1.m.rd.o.len; have ly := om2.rd.o.len
  rw [HB.out.2.2.2.2.1] at ly
  rw [← HN.out.1] at lx ly
  have hpos : 0 < oa.fs.length := by have := HN.out.2; omega
  obtain ⟨gy, hy⟩ := om2.o.f HB.out.2.2.1 (by rw [HB.out.2.2.2.2.2.2]; exact hpos)
  obtain ⟨bx, qx, nx, cx, ix, mx, hnx, jx, hbx, xsx, hrx⟩ := V1.f.at_ HB.out.1 hpos
  obtain ⟨by_, qy, ny, cy, iy, my, hny, jy, hby, xsy, hry⟩ := hy.at_ HB.out.2.2.1 (by rw [HB.out.2.2.2.2.2.2]; exact hpos)
  rw [HB.out.2.2.2.2.2.2] at hny
  rw [← HN.out.2] at hnx hny
  subst nx; subst ny
  have jx := jx i (by rw [← HN.out.2]; exact hiL)
  have jy := jy i (by rw [HB.out.2.2.2.2.2.2, ← HN.out.2]; exact hiL)
  have c_4 := g4.cell; have c_5 := g5.cell
  have b0 : decide ((N : Int) ≤ (n : Int)) = false := decide_eq_false (by omega)
  have b1 : decide ((i : Int) < 0) = false := decide_eq_false (by omega)
  have b2 : decide ((L : Int) ≤ (i : Int)) = false := decide_eq_false (by omega)
  have n0 : ¬ ((N : Int) ≤ (n : Int)) := by omega
  have n1 : ¬ ((i : Int) < 0) := by omega
  have n2 : ¬ ((L : Int) ≤ (i : Int)) := by omega
  have TF := Lib.hid (two_fields V1 om2 hy HB.out.1 HB.out.2.1 HB.out.2.2.1 HB.out.2.2.2.1)
  have KX := V1.f.cell HB.out.1 HB.out.2.1
  have KY := hy.cell HB.out.2.2.1 HB.out.2.2.2.1
  have hnn : n < a.objs.length := (List.getElem?_eq_some_iff.1 HB.out.1).1
  have hnb : n < b.objs.length := (List.getElem?_eq_some_iff.1 HB.out.2.2.1).1
  have ea4 : p4 ≠ gx := (V1.f.nb hnn g4 (by decide)).symm
  have ea5 : p5 ≠ gx := (V1.f.nb hnn g5 (by decide)).symm
  have eb4 : p4 ≠ gy := (hy.nb hnb g4 (by decide)).symm
  have eb5 : p5 ≠ gy := (hy.nb hnb g5 (by decide)).symm
  have ec1 : bx ≠ gx := V1.f.nr hnn hrx hbx
  have ec2 : bx ≠ gy := hy.nr hnb hrx hbx
  have ec3 : by_ ≠ gx := V1.f.nr hnn hry hby
  have ec4 : by_ ≠ gy := hy.nr hnb hry hby
  have BB : Below w.heap.size w (wsU wy gx gy i 2) := ((B.drew).setCell (p := ⟨gx, i, none⟩) (by show w.heap.size ≤ gx; have := KX.2.2.1; omega) _).setCell (p := ⟨gy, i, none⟩) (by show w.heap.size ≤ gy; have := KY.2.2.1; omega) _
  have A4 : ∀ d, d ≤ 2 → Bx (wsU wy gx gy i d) p4 26 #[.slice tA tn tc, .slice oA on oc, .slice sA sn sc] := by
    intro d hd
    rcases d with _ | _ | d
    · exact g4
    · exact Bx.far (w := wy.drew) g4 (p := ⟨gx, i, none⟩) ea4 _
    · exact (Bx.far (w := wy.drew) g4 (p := ⟨gx, i, none⟩) ea4 _).far (p := ⟨gy, i, none⟩) eb4 _
  have A5 : ∀ d, d ≤ 2 → Bx (wsU wy gx gy i d) p5 26 #[.slice uA un uc, .slice qA qn qc, .slice rA rn rc] := by
    intro d hd
    rcases d with _ | _ | d
    · exact g5
    · exact Bx.far (w := wy.drew) g5 (p := ⟨gx, i, none⟩) ea5 _
    · exact (Bx.far (w := wy.drew) g5 (p := ⟨gx, i, none⟩) ea5 _).far (p := ⟨gy, i, none⟩) eb5 _
  have A6 : ∀ d, d ≤ 2 → (wsU wy gx gy i d).cell? ⟨bx, qx + 1, none⟩ = some (.slice (some ⟨gx, 0, none⟩) L cx) := by
    intro d hd
    rcases d with _ | _ | d
    · exact mx
    · exact cell_far (w := wy.drew) mx ec1
    · exact cell_far (cell_far (w := wy.drew) (q := ⟨gx, i, none⟩) mx ec1) ec2
  have A7 : ∀ d, d ≤ 2 → (wsU wy gx gy i d).cell? ⟨by_, qy + 1, none⟩ = some (.slice (some ⟨gy, 0, none⟩) L cy) := by
    intro d hd
    rcases d with _ | _ | d
    · exact my
    · exact cell_far (w := wy.drew) my ec3
    · exact cell_far (cell_far (w := wy.drew) (q := ⟨gx, i, none⟩) my ec3) ec4
  have s0 : (wsU wy gx gy i 0).cell? ⟨gx, i, none⟩ = some (.int .u64 x0.toNat) := KX.1
  have s1 : (wsU wy gx gy i 0).frozen? ⟨gx, i, none⟩ = false := KX.2.1
  have KZ := TF.out.1.cell HB.out.2.2.1 HB.out.2.2.2.1
  have s2 : (wy.setCell ⟨gx, i, none⟩ (.int .u64 0)).cell? ⟨gy, i, none⟩ = some (.int .u64 v.toNat) := KZ.1
  have s3 : wy.frozen? ⟨gy, i, none⟩ = false := KY.2.1
  have HX := Lib.hid (And.intro (A4 2 (by omega)) (And.intro (A5 2 (by omega)) (And.intro BB (And.intro TF.out.2.2.1 TF.out.2.2.2))))
  have a4 := fun x : FXN (FL [15, 17] (wsU wy gx gy i) 15 2) => (FL.all (ks := [15, 17]) (Ws := wsU wy gx gy i) (p := fun V => Bx V p4 26 #[.slice tA tn tc, .slice oA on oc, .slice sA sn sc]) A4 x).cell
  have a5 := fun x : FXN (FL [15, 17] (wsU wy gx gy i) 15 2) => (FL.all (ks := [15, 17]) (Ws := wsU wy gx gy i) (p := fun V => Bx V p5 26 #[.slice uA un uc, .slice qA qn qc, .slice rA rn rc]) A5 x).cell
  have a6 := fun x : FXN (FL [15, 17] (wsU wy gx gy i) 15 2) => FL.all (ks := [15, 17]) (Ws := wsU wy gx gy i) (p := fun V => V.cell? ⟨bx, qx + 1, none⟩ = some (.slice (some ⟨gx, 0, none⟩) L cx)) A6 x
  have a7 := fun x : FXN (FL [15, 17] (wsU wy gx gy i) 15 2) => FL.all (ks := [15, 17]) (Ws := wsU wy gx gy i) (p := fun V => V.cell? ⟨by_, qy + 1, none⟩ = some (.slice (some ⟨gy, 0, none⟩) L cy)) A7 x
  clear A4 A5 A6 A7 KX KY KZ TF BB V1 om2 hy B ea4 ea5 eb4 eb5 ec1 ec2 ec3 ec4 hrx hry hbx hby hnn hnb hz2 hpos hz1 g4 g5
  go_upto_region 4 with (fail)
  haveI : Nonempty (FXN (FL [15, 17] (wsU wy gx gy i) 15 2)) := ⟨⟨_, _, FL.start⟩⟩
  refine wp_region_N (FL [15, 17] (wsU wy gx gy i) 15 2) [15, 15, 17] FL.dep (by kernel_rfl) (by kernel_rfl) (by kernel_rfl) FL.start ?_
  iterate 15 (refine wpN_read FL.dep rfl (by decide) ?_; go_big_quiet_step (fail); refine wpQuiet_nil ?_)
  refine wpN_storeD FL.dep rfl 29 (.tmp 67) (.const (.int .u64 0)) rfl (by rfl) (p := .pointer (some ⟨gx, i, none⟩)) (u := .int .u64 0) (by rfl) (by rfl) [] (by kernel_rfl) (fun f W' hF h0 h1 => ?_) ?_
  · obtain ⟨rfl, h2⟩ := FL.step (i := 0) rfl (by decide) hF h0 (by intro p hp; omega) (by omega)
    refine ⟨_, ?_, h2⟩
    simp only [wsU] at s0 s1
    simp [go_sem, wsU, s0, s1]
  simp only [Act.put, List.setIfInBounds_toArray, List.set_cons_zero, List.set_cons_succ]
  iterate 1 (refine wpN_read FL.dep rfl (by decide) ?_; go_big_quiet_step (fail); refine wpQuiet_nil ?_)
  refine wpN_storeD FL.dep rfl 29 (.tmp 68) (.const (.int .u64 0)) rfl (by rfl) (p := .pointer (some ⟨gy, i, none⟩)) (u := .int .u64 0) (by rfl) (by rfl) [15] (by kernel_rfl) (fun f W' hF h0 h1 => ?_) ?_
  · obtain ⟨rfl, h2⟩ := FL.step (i := 1) rfl (by decide) hF h0 (FL.prev rfl (h1 15 (by simp))) (by omega)
    refine ⟨_, ?_, h2⟩
    simp [go_sem, wsU, s2, s3]
  simp only [Act.put, List.setIfInBounds_toArray, List.set_cons_zero, List.set_cons_succ]
  show ∀ w', _ → _
  intro w' hw'
  obtain rfl := FL.done hw'
  clear a4 a5 a6 a7 s0 s1 s2 s3 hw' this
  have hW : wsU wy gx gy i ([15, 17] : List Nat).length = wsU wy gx gy i 2 := rfl
  rw [hW]
  generalize hV : wsU wy gx gy i 2 = V at HX ⊢
  have TX := HX.out.2.2.2
  have TX' : Mod V (.slice tA tn tc) (.slice oA on oc) (.slice sA sn sc) (putF a n i 0) ∧ Mod V (.slice uA un uc) (.slice qA qn qc) (.slice rA rn rc) (putF b n i 0) := by
    rw [← hV]
    obtain ⟨T1, T2⟩ := TX
    exact ⟨⟨T1.t, T1.o, T1.s⟩, ⟨T2.t, T2.o, T2.s⟩⟩
  clear TX hV
  obtain ⟨g4, g5, B, _⟩ := HX.out
  obtain ⟨k1, k2⟩ := TX'
  have SM := Lib.hid (fun w ha hb => Same20_any (.slice tA tn tc) (.slice oA on oc) (.slice sA sn sc) (.slice uA un uc) (.slice qA qn qc) (.slice rA rn rc) (putF a n i 0) (putF b n i 0) true (by rw [HB.out.2.2.2.2.2.1]; simp) w ha hb)
  have c_g4 := g4.cell; have c_g5 := g5.cell
  go_wp2_with fail
  refine (SM.out _ k1 k2).mono ?_
  rintro e wa2 ⟨rfl, b⟩
  replace B := B.trans (b.mono B.size); clear b
  go_wp2
  go_ret
  exact ⟨rfl, B⟩
end Go.Proofs.Ytgjpohhafmkhcaa
namespace Go.Proofs.Ytgjpohhafmkhcaa.L20
open L02 L13 L18
def numV (ns : List Int) (k : UInt8) (v : UInt64) : UInt64 := if k.toNat = 3 ∧ 0 < v.toNat then UInt64.ofNat (ns.getD (v.toNat - 1) 0 + 1).toNat else v
def numO (m : Mo) (ns : List Int) (o : Ob) : Ob := ⟨o.ty, (List.range o.fs.length).map fun i => numV ns ((ty m.types o).getD i 0) (o.fs.getD i 0)⟩
def numN (m : Mo) (ns : List Int) (want k : Nat) : List Ob := ((List.range k).filter fun n => decide (ns.getD n (-2) = (want : Int))).map fun n => numO m ns (ob m n)
def numJ (m : Mo) (ns : List Int) (j : Nat) : List Ob := (List.range j).flatMap fun want => numN m ns want ns.length
def numS (ns : List Int) (s : Sl) : Sl := if s.used = true then ⟨s.gen, true, ns.getD s.at_.toNat 0⟩ else s
def numM (m : Mo) (ns : List Int) : Mo := ⟨m.types, numJ m ns ns.length, m.slots.map (numS ns)⟩
theorem numJ_succ (m : Mo) (ns : List Int) (j : Nat) : numJ m ns (j + 1) = numJ m ns j ++ numN m ns j ns.length := by
  simp [numJ, List.range_succ, List.flatMap_append]
theorem numV_other {ns : List Int} {k : UInt8} {v : UInt64} (h : ¬ (k.toNat = 3 ∧ 0 < v.toNat)) : numV ns k v = v := if_neg h
end Go.Proofs.Ytgjpohhafmkhcaa.L20
namespace Go.Proofs.Ytgjpohhafmkhcaa.L20
open L02 L13 L18
def kidAt (m : Mo) (o : Ob) (i : Nat) : Option Nat := if ((ty m.types o).getD i 0).toNat = 3 ∧ 0 < (o.fs.getD i 0).toNat then some ((o.fs.getD i 0).toNat - 1) else none
def kidsTo (m : Mo) (o : Ob) (p : Nat) : List Nat := (List.range p).filterMap (kidAt m o)
def kids (m : Mo) (n : Nat) : List Nat := kidsTo m (ob m n) (ob m n).fs.length
def rootOf (s : Sl) : Option Nat := if s.used = true then some s.at_.toNat else none
def roots (m : Mo) : List Nat := m.slots.filterMap rootOf
/-- out is what is found, ord has been found, l is to be looked at -/
inductive Rs (m : Mo) : List Nat → List Nat → List Nat → Prop
  | nil (ord : List Nat) : Rs m ord [] ord
  | seen {ord l out : List Nat} {n : Nat} : n ∈ ord → Rs m ord l out → Rs m ord (n :: l) out
  | new {ord l out : List Nat} {n : Nat} : n ∉ ord → Rs m (ord ++ [n]) (kids m n ++ l) out → Rs m ord (n :: l) out
section
variable {m : Mo} {ord l out : List Nat}
theorem Rs.det (h : Rs m ord l out) : ∀ {out'}, Rs m ord l out' → out = out' := by
  induction h with
  | nil ord => intro o h; cases h; rfl
  | seen h1 _ ih => intro o h; cases h with
    | seen _ h => exact ih h
    | new h2 _ => exact absurd h1 h2
  | new h1 _ ih => intro o h; cases h with
    | seen h2 _ => exact absurd h2 h1
    | new _ h => exact ih h
theorem Rs.app (h : Rs m ord l out) : ∀ {a b}, l = a ++ b → ∃ mid, Rs m ord a mid ∧ Rs m mid b out := by
  induction h with
  | nil ord =>
    intro a b h
    obtain ⟨rfl, rfl⟩ := List.append_eq_nil_iff.1 h.symm
    exact ⟨_, .nil _, .nil _⟩
  | @seen ord l out n h1 h2 ih =>
    intro a b h
    cases a with
    | nil => rw [List.nil_append] at h; subst h; exact ⟨_, .nil _, .seen h1 h2⟩
    | cons x a =>
      rw [List.cons_append] at h; injection h with e1 e2; subst e1
      obtain ⟨mid, p1, p2⟩ := ih e2
      exact ⟨mid, .seen h1 p1, p2⟩
  | @new ord l out n h1 h2 ih =>
    intro a b h
    cases a with
    | nil => rw [List.nil_append] at h; subst h; exact ⟨_, .nil _, .new h1 h2⟩
    | cons x a =>
      rw [List.cons_append] at h; injection h with e1 e2; subst e1
      obtain ⟨mid, p1, p2⟩ := ih (a := kids m n ++ a) (b := b) (by rw [e2, List.append_assoc])
      exact ⟨mid, .new h1 p1, p2⟩
theorem Rs.join {mid : List Nat} {a : List Nat} (h : Rs m ord a mid) : ∀ {b out}, Rs m mid b out → Rs m ord (a ++ b) out := by
  induction h with
  | nil ord => intro b out h; exact h
  | seen h1 _ ih => intro b out h; exact .seen h1 (ih h)
  | new h1 _ ih =>
    intro b out h
    have h2 := ih h
    rw [List.append_assoc] at h2
    exact .new h1 h2
theorem Rs.pre (h : Rs m ord l out) : ord <+: out := by
  induction h with
  | nil ord => exact List.prefix_refl _
  | seen _ _ ih => exact ih
  | new _ _ ih => exact (List.prefix_append _ _).trans ih
theorem Rs.nodup (h : Rs m ord l out) : ord.Nodup → out.Nodup := by
  induction h with
  | nil ord => exact id
  | seen _ _ ih => exact ih
  | @new ord l out n h1 _ ih =>
    intro hn
    refine ih (List.nodup_append.2 ⟨hn, by simp, ?_⟩)
    intro x hx y hy e
    rw [List.mem_singleton] at hy
    exact h1 (by rw [← hy, ← e]; exact hx)
theorem Rs.all {p : Nat → Prop} (hk : ∀ n, p n → ∀ k ∈ kids m n, p k) (h : Rs m ord l out) : (∀ n ∈ ord, p n) → (∀ n ∈ l, p n) → ∀ n ∈ out, p n := by
  induction h with
  | nil ord => intro h _; exact h
  | seen _ _ ih => intro h1 h2; exact ih h1 fun n hn => h2 n (List.mem_cons_of_mem _ hn)
  | @new ord l out n _ _ ih =>
    intro h1 h2
    have hpn := h2 n List.mem_cons_self
    refine ih (fun x hx => ?_) fun x hx => ?_
    · rcases List.mem_append.1 hx with h | h
      · exact h1 x h
      · rw [List.mem_singleton.1 h]; exact hpn
    · rcases List.mem_append.1 hx with h | h
      · exact hk n hpn x h
      · exact h2 x (List.mem_cons_of_mem _ h)
theorem Rs.mem (h : Rs m ord l out) : ∀ n ∈ l, n ∈ out := by
  induction h with
  | nil ord => intro n h; cases h
  | seen h1 h2 ih =>
    intro x hx
    rcases List.mem_cons.1 hx with h | h
    · rw [h]; exact h2.pre.subset h1
    · exact ih x h
  | new h1 h2 ih =>
    intro x hx
    rcases List.mem_cons.1 hx with h | h
    · rw [h]; exact h2.pre.subset (List.mem_append_right _ (by simp))
    · exact ih x (List.mem_append_right _ h)
theorem Rs.closed (h : Rs m ord l out) : (∀ n ∈ ord, ∀ k ∈ kids m n, k ∈ ord ∨ k ∈ l) → ∀ n ∈ out, ∀ k ∈ kids m n, k ∈ out := by
  induction h with
  | nil ord =>
    intro h n hn k hk
    rcases h n hn k hk with h | h
    · exact h
    · cases h
  | seen h1 h2 ih =>
    intro h
    refine ih fun x hx k hk => ?_
    rcases h x hx k hk with h | h
    · exact .inl h
    · rcases List.mem_cons.1 h with h | h
      · rw [h]; exact .inl h1
      · exact .inr h
  | new h1 h2 ih =>
    intro h
    refine ih fun x hx k hk => ?_
    rcases List.mem_append.1 hx with hx | hx
    · rcases h x hx k hk with h | h
      · exact .inl (List.mem_append_left _ h)
      · rcases List.mem_cons.1 h with h | h
        · rw [h]; exact .inl (List.mem_append_right _ (by simp))
        · exact .inr (List.mem_append_right _ h)
    · rw [List.mem_singleton.1 hx] at hk
      exact .inr (List.mem_append_left _ hk)
/-- what is found is found in turn -/
theorem nodup_lt {N : Nat} {l : List Nat} (h : l.Nodup) (hl : ∀ n ∈ l, n < N) : l.length ≤ N := by
  have := List.Nodup.length_le_of_subset (l₁ := l) (l₂ := List.range N) h (fun x hx => List.mem_range.2 (hl x hx))
  simpa using this
end
/-- .. in so many steps -/
inductive Rn (m : Mo) : Nat → List Nat → List Nat → List Nat → Prop
  | nil (ord : List Nat) : Rn m 0 ord [] ord
  | seen {ord l out : List Nat} {n d : Nat} : n ∈ ord → Rn m d ord l out → Rn m (d + 1) ord (n :: l) out
  | new {ord l out : List Nat} {n d : Nat} : n ∉ ord → Rn m d (ord ++ [n]) (kids m n ++ l) out → Rn m (d + 1) ord (n :: l) out
theorem Rs.steps {m : Mo} {ord l out : List Nat} (h : Rs m ord l out) : ∃ d, Rn m d ord l out := by
  induction h with
  | nil ord => exact ⟨0, .nil _⟩
  | seen h1 _ ih => obtain ⟨d, h⟩ := ih; exact ⟨d + 1, .seen h1 h⟩
  | new h1 _ ih => obtain ⟨d, h⟩ := ih; exact ⟨d + 1, .new h1 h⟩
theorem Rn.rs {m : Mo} {ord l out : List Nat} {d : Nat} (h : Rn m d ord l out) : Rs m ord l out := by
  induction h with
  | nil ord => exact .nil _
  | seen h1 _ ih => exact .seen h1 ih
  | new h1 _ ih => exact .new h1 ih
theorem Rn.len {m : Mo} {ord l out : List Nat} {d : Nat} (h : Rn m d ord l out) : l.length ≤ d := by
  induction h with
  | nil ord => simp
  | seen h1 _ ih => simp; exact ih
  | new h1 _ ih => simp at ih ⊢; omega
theorem Rn.all {m : Mo} {p : Nat → Prop} (hk : ∀ n, p n → ∀ k ∈ kids m n, p k) {ord l out : List Nat} {d : Nat} (h : Rn m d ord l out) (h1 : ∀ n ∈ ord, p n) (h2 : ∀ n ∈ l, p n) : ∀ n ∈ out, p n := h.rs.all hk h1 h2
theorem Rn.end {m : Mo} {ord out : List Nat} {d : Nat} (h : Rn m d ord [] out) : out = ord := by cases h; rfl
/-- the kids from field p on -/
def kidsFrom (m : Mo) (o : Ob) (p : Nat) : List Nat := ((List.range o.fs.length).drop p).filterMap (kidAt m o)
theorem kidsFrom_step {m : Mo} {o : Ob} {p : Nat} (hp : p < o.fs.length) : kidsFrom m o p = (match kidAt m o p with | none => [] | some c => [c]) ++ kidsFrom m o (p + 1) := by
  have hd : (List.range o.fs.length).drop p = p :: (List.range o.fs.length).drop (p + 1) := by
    rw [List.drop_eq_getElem_cons (by simpa using hp)]; simp
  rw [kidsFrom, hd, List.filterMap_cons]
  cases kidAt m o p <;> rfl
theorem kidsTo_step {m : Mo} {o : Ob} {p : Nat} : kidsTo m o (p + 1) = kidsTo m o p ++ (match kidAt m o p with | none => [] | some c => [c]) := by
  rw [kidsTo, List.range_succ, List.filterMap_append]
  congr 1
  cases h : kidAt m o p <;> simp [h]
/-- the first kids and the others -/
theorem kids_split {m : Mo} {o : Ob} {p : Nat} (hp : p ≤ o.fs.length) : kidsTo m o o.fs.length = kidsTo m o p ++ kidsFrom m o p := by
  rw [kidsTo, kidsTo, kidsFrom, ← List.filterMap_append]
  congr 1
  have := List.take_append_drop p (List.range o.fs.length)
  rw [← this]
  congr 1
  · apply List.ext_getElem?
    intro i
    rw [List.getElem?_take]
    rcases Nat.lt_or_ge i p with h | h
    · rw [if_pos h, List.getElem?_range (by omega), List.getElem?_range h]
    · rw [if_neg (by omega), List.getElem?_eq_none (by simpa using h)]
  · simp [List.drop_append, Nat.min_eq_left hp]
/-- the numbers of what is found -/
def canN (m : Mo) (out : List Nat) : List Int := (List.range m.objs.length).map fun n => if n ∈ out then (out.idxOf n : Int) else -1
def canM (m : Mo) (out : List Nat) : Mo := numM m (canN m out)
end Go.Proofs.Ytgjpohhafmkhcaa.L20
namespace Go.Proofs.Ytgjpohhafmkhcaa.L20
open L02 L13 L18
/-- of the same types -/
def Like (m m' : Mo) : Prop := m'.types = m.types ∧ m'.objs.length = m.objs.length ∧ ∀ k, (ob m' k).ty = (ob m k).ty ∧ (ob m' k).fs.length = (ob m k).fs.length
theorem Like.refl (m : Mo) : Like m m := ⟨rfl, rfl, fun _ => ⟨rfl, rfl⟩⟩
/-- the first i fields changed -/
def mapO (φ : UInt8 → UInt64 → UInt64) (T : List (List UInt8)) (o : Ob) (i : Nat) : Ob := ⟨o.ty, (List.range o.fs.length).map fun j => if j < i then φ ((ty T o).getD j 0) (o.fs.getD j 0) else o.fs.getD j 0⟩
/-- the objects before n changed, and i fields of n -/
def mapP (φ : UInt8 → UInt64 → UInt64) (m : Mo) (n i : Nat) : Mo := ⟨m.types, (List.range m.objs.length).map fun k => if k < n then mapO φ m.types (ob m k) (ob m k).fs.length else if k = n then mapO φ m.types (ob m k) i else ob m k, m.slots⟩
section
variable {φ : UInt8 → UInt64 → UInt64} {m : Mo} {n i : Nat}
theorem mapO_zero (T : List (List UInt8)) (o : Ob) : mapO φ T o 0 = o := by
  obtain ⟨t, fs⟩ := o
  have : (List.range fs.length).map (fun j => fs.getD j 0) = fs := by
    apply List.ext_getElem?
    intro k
    rcases Nat.lt_or_ge k fs.length with h | h
    · simp [h, List.getD_eq_getElem?_getD]
    · rw [List.getElem?_eq_none (by simpa using h), List.getElem?_eq_none h]
  simp only [List.getD_eq_getElem?_getD] at this
  simp [mapO, this]
theorem mapO_len (T : List (List UInt8)) (o : Ob) (i : Nat) : (mapO φ T o i).fs.length = o.fs.length := by simp [mapO]
theorem ob_mapP (k : Nat) (hk : k < m.objs.length) : ob (mapP φ m n i) k = if k < n then mapO φ m.types (ob m k) (ob m k).fs.length else if k = n then mapO φ m.types (ob m k) i else ob m k := by
  rw [ob, List.getD_eq_getElem?_getD]
  simp [mapP, hk]
theorem mapP_zero : mapP φ m 0 0 = m := by
  obtain ⟨T, L, S⟩ := m
  simp only [mapP]
  congr 1
  apply List.ext_getElem?
  intro k
  rcases Nat.lt_or_ge k L.length with h | h
  · simp [h, mapO_zero, ob, List.getD_eq_getElem?_getD]
  · rw [List.getElem?_eq_none (by simpa using h), List.getElem?_eq_none h]
theorem mapP_next : mapP φ m n (ob m n).fs.length = mapP φ m (n + 1) 0 := by
  simp only [mapP]
  congr 1
  refine List.map_congr_left fun k _ => ?_
  by_cases h1 : k < n
  · rw [if_pos h1, if_pos (by omega)]
  · by_cases h2 : k = n
    · subst h2; rw [if_neg h1, if_pos rfl, if_pos (by omega)]
    · rw [if_neg h1, if_neg h2, if_neg (by omega)]
      by_cases h3 : k = n + 1
      · rw [if_pos h3, mapO_zero]
      · rw [if_neg h3]
theorem mapP_like : Like m (mapP φ m n i) := by
  refine ⟨rfl, by simp [mapP], fun k => ?_⟩
  rcases Nat.lt_or_ge k m.objs.length with h | h
  · rw [ob_mapP k h]
    split
    · exact ⟨rfl, mapO_len _ _ _⟩
    · split
      · exact ⟨rfl, mapO_len _ _ _⟩
      · exact ⟨rfl, rfl⟩
  · rw [ob, ob, List.getD_eq_getElem?_getD, List.getD_eq_getElem?_getD, List.getElem?_eq_none (by simpa [mapP] using h), List.getElem?_eq_none h]
    exact ⟨rfl, rfl⟩
theorem mapO_get (T : List (List UInt8)) (o : Ob) {i j : Nat} (hj : j < o.fs.length) : (mapO φ T o i).fs[j]? = some (if j < i then φ ((ty T o).getD j 0) (o.fs.getD j 0) else o.fs.getD j 0) := by
  simp [mapO, hj]
theorem mapO_set (T : List (List UInt8)) (o : Ob) {i : Nat} (hi : i < o.fs.length) : (mapO φ T o i).fs.set i (φ ((ty T o).getD i 0) (o.fs.getD i 0)) = (mapO φ T o (i + 1)).fs := by
  apply List.ext_getElem?
  intro j
  rcases Nat.lt_or_ge j o.fs.length with h | h
  · by_cases hij : i = j
    · subst hij
      rw [List.getElem?_set_self (by rw [mapO_len]; exact hi), mapO_get T o hi, if_pos (by omega)]
    · rw [List.getElem?_set_ne hij, mapO_get T o h, mapO_get T o h]
      by_cases h1 : j < i
      · rw [if_pos h1, if_pos (by omega)]
      · rw [if_neg h1, if_neg (by omega)]
  · rw [List.getElem?_eq_none (by rw [List.length_set, mapO_len]; exact h), List.getElem?_eq_none (by rw [mapO_len]; exact h)]
/-- one more reference is changed -/
theorem mapP_step (hn : n < m.objs.length) (hi : i < (ob m n).fs.length) : putF (mapP φ m n i) n i (φ ((ty m.types (ob m n)).getD i 0) ((ob m n).fs.getD i 0)) = mapP φ m n (i + 1) := by
  have hob : ob (mapP φ m n i) n = mapO φ m.types (ob m n) i := by rw [ob_mapP n hn, if_neg (by omega), if_pos rfl]
  rw [putF, hob]
  show (⟨m.types, (mapP φ m n i).objs.set n ⟨(ob m n).ty, _⟩, m.slots⟩ : Mo) = ⟨m.types, (mapP φ m n (i + 1)).objs, m.slots⟩
  congr 1
  rw [mapO_set m.types _ hi]
  apply List.ext_getElem?
  intro k
  rcases Nat.lt_or_ge k m.objs.length with h | h
  · by_cases hk : n = k
    · subst hk
      rw [List.getElem?_set_self (by simpa [mapP] using h)]
      simp [mapP, h, mapO]
    · rw [List.getElem?_set_ne hk]
      simp only [mapP, List.getElem?_map, List.getElem?_range h, Option.map_some]
      by_cases h1 : k < n
      · rw [if_pos h1, if_pos h1]
      · rw [if_neg h1, if_neg h1, if_neg (Ne.symm hk), if_neg (Ne.symm hk)]
  · rw [List.getElem?_eq_none (by simpa [mapP] using h), List.getElem?_eq_none (by simpa [mapP] using h)]
/-- a field that does not change -/
theorem mapP_skip (h : φ ((ty m.types (ob m n)).getD i 0) ((ob m n).fs.getD i 0) = (ob m n).fs.getD i 0) : mapP φ m n (i + 1) = mapP φ m n i := by
  simp only [mapP]
  congr 1
  refine List.map_congr_left fun k _ => ?_
  by_cases h1 : k < n
  · rw [if_pos h1, if_pos h1]
  · by_cases h2 : k = n
    · subst h2
      rw [if_neg h1, if_pos rfl, if_neg h1, if_pos rfl]
      simp only [mapO]
      congr 1
      refine List.map_congr_left fun j _ => ?_
      by_cases h3 : j < k
      all_goals
        by_cases h4 : j = i
        · subst h4; simp only [List.getD_eq_getElem?_getD] at h; simp [h]
        · have : (j < i + 1) = (j < i) := by rw [eq_iff_iff]; omega
          simp only [this]
    · rw [if_neg h1, if_neg h2, if_neg h1, if_neg h2]
/-- what stands in a field now -/
theorem mapP_fld (hn : n < m.objs.length) (hi : i < (ob m n).fs.length) : ∃ o, (mapP φ m n i).objs[n]? = some o ∧ o.fs[i]? = some ((ob m n).fs.getD i 0) := by
  refine ⟨mapO φ m.types (ob m n) i, ?_, ?_⟩
  · simp [mapP, hn]
  · rw [mapO_get _ _ hi, if_neg (by omega)]
theorem mapP_done : mapP φ m m.objs.length 0 = ⟨m.types, m.objs.map fun o => mapO φ m.types o o.fs.length, m.slots⟩ := by
  simp only [mapP]
  congr 1
  apply List.ext_getElem?
  intro k
  rcases Nat.lt_or_ge k m.objs.length with h | h
  · simp [h, ob, List.getD_eq_getElem?_getD]
  · rw [List.getElem?_eq_none (by simpa using h), List.getElem?_eq_none (by simpa using h)]
end
end Go.Proofs.Ytgjpohhafmkhcaa.L20
namespace Go.Proofs.Ytgjpohhafmkhcaa.L20
open L02 L13 L18
/-- the first j of a list changed -/
def mapT {α : Type} (f : α → α) (L : List α) (j : Nat) : List α := (L.take j).map f ++ L.drop j
section
variable {α : Type} {f : α → α} {L : List α} {k : Nat} {s : α}
theorem mapT_zero : mapT f L 0 = L := by simp [mapT]
theorem mapT_done (h : L.length ≤ k) : mapT f L k = L.map f := by simp [mapT, List.take_of_length_le h, List.drop_of_length_le h]
theorem mapT_len : (mapT f L k).length = L.length := by simp [mapT]; omega
theorem mapT_get (hs : L[k]? = some s) : (mapT f L k)[k]? = some s := by
  have hk : k < L.length := (List.getElem?_eq_some_iff.1 hs).1
  rw [mapT, List.getElem?_append_right (by simp; omega)]
  simp [Nat.min_eq_left (Nat.le_of_lt hk), hs]
theorem mapT_set (hs : L[k]? = some s) : (mapT f L k).set k (f s) = mapT f L (k + 1) := by
  have hk : k < L.length := (List.getElem?_eq_some_iff.1 hs).1
  have hd : L.drop k = s :: L.drop (k + 1) := by
    rw [List.drop_eq_getElem_cons hk]; congr 1
    rw [List.getElem?_eq_getElem hk] at hs; injection hs
  rw [mapT, mapT, List.take_add_one, hs, hd]
  rw [List.set_append_right _ _ (by simp; omega)]
  simp [Nat.min_eq_left (Nat.le_of_lt hk)]
theorem mapT_same (hs : L[k]? = some s) (hf : f s = s) : mapT f L (k + 1) = mapT f L k := by
  rw [← mapT_set hs, hf]
  apply List.ext_getElem?
  intro i
  by_cases hi : i = k
  · subst hi
    rw [List.getElem?_set_self (by rw [mapT_len]; exact (List.getElem?_eq_some_iff.1 hs).1), mapT_get hs]
  · rw [List.getElem?_set_ne (Ne.symm hi)]
end
/-- a field of another object, before field i of object n, refers to q -/
def refTo (m : Mo) (q n i : Nat) : Prop := ∃ a b, (a < n ∨ a = n ∧ b < i) ∧ a < m.objs.length ∧ b < (ob m a).fs.length ∧ a ≠ q ∧ isRef m (ob m a) b q
/-- a slot before j refers to q -/
def sloTo (S : List Sl) (q j : Nat) : Prop := ∃ a s, a < j ∧ S[a]? = some s ∧ s.used = true ∧ s.at_ = (q : Int)
section
variable {m : Mo} {q n i : Nat}
theorem refTo_zero : ¬ refTo m q 0 0 := by rintro ⟨a, b, h, _⟩; omega
theorem refTo_next (hn : n < m.objs.length) : refTo m q n (ob m n).fs.length ↔ refTo m q (n + 1) 0 := by
  constructor
  · rintro ⟨a, b, h, h1, h2, h3⟩; exact ⟨a, b, by omega, h1, h2, h3⟩
  · rintro ⟨a, b, h, h1, h2, h3⟩
    refine ⟨a, b, ?_, h1, h2, h3⟩
    by_cases ha : a = n
    · subst ha; exact .inr ⟨rfl, h2⟩
    · exact .inl (by omega)
theorem refTo_step (hn : n < m.objs.length) (hi : i < (ob m n).fs.length) : refTo m q n (i + 1) ↔ (refTo m q n i ∨ (n ≠ q ∧ isRef m (ob m n) i q)) := by
  constructor
  · rintro ⟨a, b, h, h1, h2, h3, h4⟩
    by_cases hab : a = n ∧ b = i
    · obtain ⟨rfl, rfl⟩ := hab; exact .inr ⟨h3, h4⟩
    · exact .inl ⟨a, b, by omega, h1, h2, h3, h4⟩
  · rintro (⟨a, b, h, h1, h2, h3, h4⟩ | ⟨h3, h4⟩)
    · exact ⟨a, b, by omega, h1, h2, h3, h4⟩
    · exact ⟨n, i, by omega, hn, hi, h3, h4⟩
theorem refTo_done : refTo m q m.objs.length 0 ↔ ∃ i, i < m.objs.length ∧ i ≠ q ∧ ∃ k, k < (ob m i).fs.length ∧ isRef m (ob m i) k q := by
  constructor
  · rintro ⟨a, b, h, h1, h2, h3, h4⟩; exact ⟨a, h1, h3, b, h2, h4⟩
  · rintro ⟨a, h1, h3, b, h2, h4⟩; exact ⟨a, b, .inl h1, h1, h2, h3, h4⟩
theorem sloTo_zero {S : List Sl} : ¬ sloTo S q 0 := by rintro ⟨a, s, h, _⟩; omega
theorem sloTo_step {S : List Sl} {j : Nat} {s : Sl} (hs : S[j]? = some s) : sloTo S q (j + 1) ↔ (sloTo S q j ∨ (s.used = true ∧ s.at_ = (q : Int))) := by
  constructor
  · rintro ⟨a, t, h, h1, h2⟩
    by_cases ha : a = j
    · subst ha; rw [hs] at h1; injection h1 with h1; subst h1; exact .inr h2
    · exact .inl ⟨a, t, by omega, h1, h2⟩
  · rintro (⟨a, t, h, h1, h2⟩ | h2)
    · exact ⟨a, t, by omega, h1, h2⟩
    · exact ⟨j, s, by omega, hs, h2⟩
/-- what keeps an object from being freed -/
theorem busy_iff {k : Nat} {g : Int} (hk : k < m.slots.length) (n : Nat) : Busy m (k : Int) n ↔ (sloTo (m.slots.set k ⟨g, false, 0⟩) n m.slots.length ∨ refTo m n m.objs.length 0) := by
  rw [refTo_done]
  refine or_congr ?_ Iff.rfl
  constructor
  · rintro ⟨i, hi, hne, hu, ha⟩
    refine ⟨i, m.slots[i], hi, ?_, ?_⟩
    · rw [List.getElem?_set_ne (by omega), List.getElem?_eq_getElem hi]
    · simp only [List.getD_eq_getElem?_getD, List.getElem?_eq_getElem hi, Option.getD_some] at hu ha
      exact ⟨hu, ha⟩
  · rintro ⟨i, s, hi, hs, hu, ha⟩
    by_cases hik : k = i
    · subst hik
      rw [List.getElem?_set_self hk] at hs
      injection hs with hs; subst hs; cases hu
    · rw [List.getElem?_set_ne hik] at hs
      refine ⟨i, hi, by omega, ?_, ?_⟩
      · simp [List.getD_eq_getElem?_getD, hs, hu]
      · simp [List.getD_eq_getElem?_getD, hs, ha]
end
theorem range_filter (a : Nat) : ∀ N, (List.range N).filter (fun n => decide (n = a)) = if a < N then [a] else []
  | 0 => by simp
  | N + 1 => by
    rw [List.range_succ, List.filter_append, range_filter a N]
    by_cases h : a < N
    · rw [if_pos h, if_pos (by omega)]
      have : ¬ N = a := by omega
      simp [this]
    · rw [if_neg h]
      by_cases h2 : a = N
      · subst h2; simp
      · rw [if_neg (by omega)]
        have : ¬ N = a := fun e => h2 e.symm
        simp [this]
/-- .. and what it is made of -/
theorem free_map {m : Mo} {q : Nat} {S : List Sl} : mapP (lowV q) ⟨m.types, m.objs, S⟩ m.objs.length 0 = ⟨m.types, m.objs.map (lowO m q), S⟩ := by
  have := mapP_done (φ := lowV q) (m := ⟨m.types, m.objs, S⟩)
  dsimp only at this
  rw [this]
  congr 1
  refine List.map_congr_left fun o _ => ?_
  rw [mapO, lowO]
  congr 1
  refine List.map_congr_left fun j hj => ?_
  rw [if_pos (List.mem_range.1 hj)]
end Go.Proofs.Ytgjpohhafmkhcaa.L20
namespace Go.Proofs.Ytgjpohhafmkhcaa.L20
open L02 L13 L18
def rootsFrom (m : Mo) (j : Nat) : List Nat := (m.slots.drop j).filterMap rootOf
theorem rootsFrom_step {m : Mo} {j : Nat} {s : Sl} (hs : m.slots[j]? = some s) : rootsFrom m j = (match rootOf s with | none => [] | some c => [c]) ++ rootsFrom m (j + 1) := by
  have hj : j < m.slots.length := (List.getElem?_eq_some_iff.1 hs).1
  have hd : m.slots.drop j = s :: m.slots.drop (j + 1) := by
    rw [List.drop_eq_getElem_cons hj]; congr 1
    rw [List.getElem?_eq_getElem hj] at hs; injection hs
  rw [rootsFrom, hd, List.filterMap_cons]
  cases rootOf s <;> rfl
def natI (l : List Nat) : List Int := l.map fun n : Nat => (n : Int)
theorem natI_len (l : List Nat) : (natI l).length = l.length := by simp [natI]
theorem natI_snoc (l : List Nat) (x : Nat) : natI (l ++ [x]) = natI l ++ [(x : Int)] := by simp [natI]
def seenV (N : Nat) (ord : List Nat) : List Bool := (List.range N).map fun i => decide (i ∈ ord)
/-- what is known of a kid -/
theorem kidAt_some {m : Mo} {o : Ob} {i c : Nat} (h : kidAt m o i = some c) : ((ty m.types o).getD i 0).toNat = 3 ∧ (o.fs.getD i 0).toNat = c + 1 := by
  unfold kidAt at h
  split at h
  · rename_i h1; injection h with h; exact ⟨h1.1, by omega⟩
  · cases h
theorem kids_lt {m : Mo} (hc : chk m = 0) : ∀ n, n < m.objs.length → ∀ k ∈ kids m n, k < m.objs.length := by
  intro n hn k hk
  obtain ⟨_, _, h3⟩ := chk_ok hc
  rw [kids, kidsTo, List.mem_filterMap] at hk
  obtain ⟨i, hi, hk⟩ := hk
  have hi := List.mem_range.1 hi
  have h1 := kidAt_some hk
  have hoo : ObOk m.types m.objs.length (ob m n) := h3.2.2.1 _ (by rw [ob, List.getD_eq_getElem?_getD, List.getElem?_eq_getElem hn]; exact List.getElem_mem hn)
  have := (hoo.2.2 i hi).2 h1.1
  omega
theorem roots_lt {m : Mo} (hc : chk m = 0) : ∀ n ∈ roots m, n < m.objs.length := by
  intro n hn
  obtain ⟨_, _, h3⟩ := chk_ok hc
  rw [roots, List.mem_filterMap] at hn
  obtain ⟨s, hs, hn⟩ := hn
  unfold rootOf at hn
  split at hn
  · rename_i hu
    injection hn with hn
    obtain ⟨a1, a2, a3⟩ := (h3.2.2.2 s hs).2.2 hu
    omega
  · cases hn
/-- what is reached -/
structure Reach (m : Mo) (out : List Nat) : Prop where
  rs : Rs m [] (roots m) out
  nd : out.Nodup
  lt : ∀ n ∈ out, n < m.objs.length
  len : out.length ≤ m.objs.length
theorem Reach.of {m : Mo} (hc : chk m = 0) {out : List Nat} (h : Rs m [] (roots m) out) : Reach m out := by
  have nd := h.nodup List.nodup_nil
  have lt := h.all (p := fun n => n < m.objs.length) (kids_lt hc) (by simp) (roots_lt hc)
  exact ⟨h, nd, lt, nodup_lt nd lt⟩
theorem canN_len (m : Mo) (out : List Nat) : (canN m out).length = m.objs.length := by simp [canN]
theorem canN_get {m : Mo} {out : List Nat} {n : Nat} (h : n < m.objs.length) : (canN m out)[n]? = some (if n ∈ out then (out.idxOf n : Int) else -1) := by simp [canN, h]
theorem idxOf_snoc {l : List Nat} {x y : Nat} (hx : x ∉ l) : (l ++ [x]).idxOf y = if y ∈ l then l.idxOf y else if y = x then l.length else l.length + 1 := by
  rw [List.idxOf_append]
  by_cases h : y ∈ l
  · rw [if_pos h, if_pos h]
  · rw [if_neg h, if_neg h]
    by_cases h2 : y = x
    · subst h2; simp
    · rw [if_neg h2]
      have : (x == y) = false := by rw [beq_eq_false_iff_ne]; exact Ne.symm h2
      simp [List.idxOf_cons, this]; omega
/-- the numbers of what is found, and 1 -/
def numsI (m : Mo) (ord : List Nat) : List Int := (List.range m.objs.length).map fun n => if n ∈ ord then (ord.idxOf n : Int) + 1 else 0
theorem numsI_len (m : Mo) (ord : List Nat) : (numsI m ord).length = m.objs.length := by simp [numsI]
theorem numsI_get {m : Mo} {ord : List Nat} {n : Nat} (h : n < m.objs.length) : (numsI m ord)[n]? = some (if n ∈ ord then (ord.idxOf n : Int) + 1 else 0) := by simp [numsI, h]
theorem numsI_nil (m : Mo) : numsI m [] = List.replicate m.objs.length 0 := by
  apply List.ext_getElem?
  intro i
  rcases Nat.lt_or_ge i m.objs.length with hi | hi
  · rw [numsI_get hi, List.getElem?_replicate, if_pos hi]; simp
  · rw [List.getElem?_eq_none (by rw [numsI_len]; exact hi), List.getElem?_eq_none (by simpa using hi)]
theorem numsI_step {m : Mo} {ord : List Nat} {n : Nat} (hni : n ∉ ord) (hlt : n < m.objs.length) : (numsI m ord).set n ((ord.length : Int) + 1) = numsI m (ord ++ [n]) := by
  apply List.ext_getElem?
  intro k
  rcases Nat.lt_or_ge k m.objs.length with hk | hk
  · by_cases hkn : n = k
    · subst hkn
      rw [List.getElem?_set_self (by rw [numsI_len]; exact hk), numsI_get hk, if_pos (by simp), idxOf_snoc hni, if_neg hni, if_pos rfl]
    · rw [List.getElem?_set_ne hkn, numsI_get hk, numsI_get hk]
      by_cases hm : k ∈ ord
      · rw [if_pos hm, if_pos (List.mem_append_left _ hm), idxOf_snoc hni, if_pos hm]
      · rw [if_neg hm, if_neg (by simp [hm]; exact fun e => hkn e.symm)]
  · rw [List.getElem?_eq_none (by rw [List.length_set, numsI_len]; exact hk), List.getElem?_eq_none (by rw [numsI_len]; exact hk)]
/-- the next kid -/
theorem Rs.kid {m : Mo} {o : Ob} {ord mid out : List Nat} {i c : Nat} (hi : i < o.fs.length) (h : Rs m ord (kidsTo m o o.fs.length) out) (h1 : Rs m ord (kidsTo m o i) mid) (hc : kidAt m o i = some c) : ∃ mid2, Rs m mid [c] mid2 ∧ Rs m ord (kidsTo m o (i + 1)) mid2 := by
  rw [kids_split (Nat.le_of_lt hi), kidsFrom_step hi, hc] at h
  obtain ⟨mid', a1, a2⟩ := h.app rfl
  obtain rfl := a1.det h1
  obtain ⟨mid2, b1, b2⟩ := a2.app (a := [c]) rfl
  exact ⟨mid2, b1, by rw [kidsTo_step, hc]; exact a1.join b1⟩
end Go.Proofs.Ytgjpohhafmkhcaa.L20
namespace Go.Proofs.Ytgjpohhafmkhcaa.L20
open L02 L13 L18
theorem numO_mapO (m : Mo) (ns : List Int) (o : Ob) : numO m ns o = mapO (numV ns) m.types o o.fs.length := by
  rw [numO, mapO]
  congr 1
  refine List.map_congr_left fun j hj => ?_
  rw [if_pos (List.mem_range.1 hj)]
theorem idxOf_eq {out : List Nat} (hn : out.Nodup) {n j : Nat} (h : n ∈ out) : out.idxOf n = j ↔ out[j]? = some n := by
  constructor
  · rintro rfl
    rw [List.getElem?_eq_getElem (List.idxOf_lt_length_of_mem h), List.getElem_idxOf]
  · intro hj
    have h1 : out[out.idxOf n]? = some n := by rw [List.getElem?_eq_getElem (List.idxOf_lt_length_of_mem h), List.getElem_idxOf]
    exact (List.getElem?_inj (List.idxOf_lt_length_of_mem h) hn).1 (h1.trans hj.symm)
theorem numN_can {m : Mo} {out : List Nat} (hr : Reach m out) (j : Nat) : numN m (canN m out) j (canN m out).length = match out[j]? with | none => [] | some n => [numO m (canN m out) (ob m n)] := by
  rw [canN_len]
  have e : ∀ a, (out[j]? = some a → (List.range m.objs.length).filter (fun n => decide ((canN m out).getD n (-2) = (j : Int))) = (List.range m.objs.length).filter (fun n => decide (n = a))) := fun a ha => by
    refine List.filter_congr fun n hn => ?_
    have hn := List.mem_range.1 hn
    rw [List.getD_eq_getElem?_getD, canN_get hn, Option.getD_some]
    congr 1
    rw [eq_iff_iff]
    by_cases h : n ∈ out
    · rw [if_pos h]
      constructor
      · intro h1
        have h2 : out.idxOf n = j := by omega
        have := (idxOf_eq hr.nd h).1 h2
        rw [ha] at this; injection this with this; exact this.symm
      · rintro rfl
        have := (idxOf_eq hr.nd h).2 ha
        omega
    · rw [if_neg h]
      constructor
      · intro h1; omega
      · rintro rfl; exact absurd (List.mem_of_getElem? ha) h
  cases hj : out[j]? with
  | some a =>
    rw [numN, e a hj, range_filter, if_pos (hr.lt a (List.mem_of_getElem? hj))]; rfl
  | none =>
    rw [numN]
    have : (List.range m.objs.length).filter (fun n => decide ((canN m out).getD n (-2) = (j : Int))) = [] := by
      rw [List.filter_eq_nil_iff]
      intro n hn
      have hn := List.mem_range.1 hn
      rw [List.getD_eq_getElem?_getD, canN_get hn, Option.getD_some, decide_eq_true_iff]
      split
      · rename_i h
        intro h1
        have h2 : out.idxOf n = j := by omega
        have := (idxOf_eq hr.nd h).1 h2
        rw [hj] at this; cases this
      · omega
    rw [this]; rfl
theorem numJ_can {m : Mo} {out : List Nat} (hr : Reach m out) : ∀ j, numJ m (canN m out) j = (out.take j).map fun n => numO m (canN m out) (ob m n)
  | 0 => by simp [numJ]
  | j + 1 => by
    rw [numJ_succ, numJ_can hr j, numN_can hr j, List.take_add_one, List.map_append]
    cases out[j]? <;> rfl
theorem canM_eq {m : Mo} {out : List Nat} (hr : Reach m out) : canM m out = ⟨m.types, out.map fun n => mapO (numV (canN m out)) m.types (ob m n) (ob m n).fs.length, m.slots.map (numS (canN m out))⟩ := by
  rw [canM, numM]
  congr 1
  rw [numJ_can hr, canN_len, List.take_of_length_le hr.len]
  refine List.map_congr_left fun n _ => numO_mapO m _ _
/-- the model of what is reached, with the old numbers -/
def canB (m : Mo) (out : List Nat) : Mo := ⟨m.types, out.map (ob m), m.slots⟩
theorem canB_done {m : Mo} {out : List Nat} (hr : Reach m out) (φ : UInt8 → UInt64 → UInt64) : mapP φ (canB m out) out.length 0 = ⟨m.types, out.map fun n => mapO φ m.types (ob m n) (ob m n).fs.length, m.slots⟩ := by
  have h := mapP_done (φ := φ) (m := canB m out)
  have hl : (canB m out).objs.length = out.length := by simp [canB]
  rw [hl] at h
  rw [h]
  simp [canB]
theorem canB_ob {m : Mo} {out : List Nat} {i : Nat} (hi : i < out.length) : ob (canB m out) i = ob m out[i] := by
  simp [canB, ob, List.getD_eq_getElem?_getD, List.getElem?_map, List.getElem?_eq_getElem hi]
theorem Reach.closed {m : Mo} {out : List Nat} (h : Reach m out) : ∀ n ∈ out, ∀ k ∈ kids m n, k ∈ out := h.rs.closed (by simp)
/-- a reference of an object that is reached -/
theorem can_ref {m : Mo} {out : List Nat} (hc : chk m = 0) (hr : Reach m out) {n i : Nat} (hn : n < (canB m out).objs.length) (hi : i < (ob (canB m out) n).fs.length) (h3 : ((ty m.types (ob (canB m out) n)).getD i 0).toNat = 3) :
    ((ob (canB m out) n).fs.getD i 0).toNat ≤ 960 ∧ (0 < ((ob (canB m out) n).fs.getD i 0).toNat → ∃ x : Nat, (numsI m out)[((ob (canB m out) n).fs.getD i 0).toNat - 1]? = some ((x : Int) + 1) ∧ x < 960 ∧ (numV (canN m out) ((ty m.types (ob (canB m out) n)).getD i 0) ((ob (canB m out) n).fs.getD i 0)).toNat = x + 1) := by
  have hl : n < out.length := by simpa [canB] using hn
  rw [canB_ob hl] at hi h3 ⊢
  have hmem : out[n] ∈ out := List.getElem_mem hl
  have hlt := hr.lt _ hmem
  obtain ⟨_, ho, h4⟩ := chk_ok hc
  have hoo : ObOk m.types m.objs.length (ob m out[n]) := h4.2.2.1 _ (by rw [ob, List.getD_eq_getElem?_getD, List.getElem?_eq_getElem hlt]; exact List.getElem_mem hlt)
  have hv := (hoo.2.2 i hi).2 h3
  refine ⟨by omega, fun h0 => ?_⟩
  have hk : ((ob m out[n]).fs.getD i 0).toNat - 1 ∈ kids m out[n] := by
    rw [kids, kidsTo, List.mem_filterMap]
    exact ⟨i, List.mem_range.2 hi, by rw [kidAt, if_pos ⟨h3, h0⟩]⟩
  have hin := hr.closed _ hmem _ hk
  have hil := List.idxOf_lt_length_of_mem hin
  have := hr.len
  have hq : ((ob m out[n]).fs.getD i 0).toNat - 1 < m.objs.length := by omega
  refine ⟨out.idxOf (((ob m out[n]).fs.getD i 0).toNat - 1), by rw [numsI_get hq, if_pos hin], by omega, ?_⟩
  rw [numV, if_pos ⟨h3, h0⟩, List.getD_eq_getElem?_getD, canN_get hq, if_pos hin, Option.getD_some]
  rw [UInt64.toNat_ofNat_of_lt' (by unfold UInt64.size; omega)]
  omega
end Go.Proofs.Ytgjpohhafmkhcaa.L20
namespace Go.Proofs.Ytgjpohhafmkhcaa.L20
open L02 L13 L18
def exM : Mo := ⟨[[3]], [⟨0, [2]⟩, ⟨0, [0]⟩], ⟨1, true, 0⟩ :: ⟨1, true, 1⟩ :: List.replicate 14 Sl.none⟩
def exD : Mo := ⟨[[3]], [⟨0, [2]⟩, ⟨0, [0]⟩], ⟨1, true, 0⟩ :: List.replicate 1 ⟨1, false, 0⟩ ++ List.replicate 14 Sl.none⟩
def exN : Mo := ⟨[[3]], [⟨0, [2]⟩, ⟨0, [0]⟩], ⟨1, false, 0⟩ :: List.replicate 1 ⟨1, false, 0⟩ ++ List.replicate 14 Sl.none⟩
theorem ex_free : freeE exM 1 1 = 45 := by decide +kernel
theorem ex_a1 : asked exM 1 1 = 0 := by decide +kernel
theorem ex_d1 : dropM exM 1 1 = exD := by decide +kernel
theorem exD_chk : chk exD = 0 := by decide +kernel
theorem ex_a2 : asked exD 0 1 = 0 := by decide +kernel
theorem ex_d2 : dropM exD 0 1 = exN := by decide +kernel
theorem exN_chk : chk exN = 0 := by decide +kernel
theorem exD_rs : Rs exD [] (roots exD) [0, 1] := by
  have h1 : roots exD = [0] := by decide +kernel
  have h2 : kids exD 0 = [1] := by decide +kernel
  have h3 : kids exD 1 = [] := by decide +kernel
  rw [h1]
  refine .new (by simp) ?_
  rw [h2]
  refine .new (by simp) ?_
  rw [h3]
  exact .nil _
theorem exN_rs : Rs exN [] (roots exN) [] := by
  have h1 : roots exN = [] := by decide +kernel
  rw [h1]; exact .nil _
theorem exD_len : (canM exD [0, 1]).objs.length = 2 := by rw [canM_eq (Reach.of exD_chk exD_rs)]; rfl
theorem exN_len : (canM exN []).objs.length = 0 := by rw [canM_eq (Reach.of exN_chk exN_rs)]; rfl
end Go.Proofs.Ytgjpohhafmkhcaa.L20
namespace Go.Proofs.Ytgjpohhafmkhcaa
open Go.RowKit L02 L13 L18 L20
set_option maxRecDepth 100000 in
set_option maxHeartbeats 8000000 in
theorem Drop20_any (tv ov sv : Value) (m : Mo) (sl g : Int) (M : Mo) (r : Int) (hM : M = dropM m sl g) (hr : r = asked m sl g) (w : World) (h : Mod w tv ov sv m) :
    Calls Try.prog 28 #[.agg #[tv, ov, sv], .agg #[.int .i64 sl, .int .i64 g]] w fun e w' => ∃ t' o' s', e = .returned (.tuple #[.agg #[t', o', s'], .int .i64 r]) ∧ Mod w' t' o' s' M ∧ Below w.heap.size w w' := by
  have B : Below w.heap.size w w := Below.refl _ _
  have H := Lib.hid h
  by_cases ha : asked m sl g = 0
  · obtain ⟨c0, hr0, k, s, n', o, t, hk, hk16, hs, hu, hg, hso, hat, hown, _⟩ := asked_ok ha
    have OT := Lib.hid (fun w h => open20_ok tv ov sv m sl g n' ha hown w h)
    obtain ⟨_, _, h16, _⟩ := chk_ok c0
    have hr1 : r = 0 := by rw [hr, ha]
    have hM1 : M = ⟨m.types, m.objs, m.slots.set k ⟨g, false, 0⟩⟩ := by rw [hM, dropM, if_pos ha, hk, Int.toNat_natCast]
    subst hk
    subst hr1; subst hM1
    have HS := Lib.hid hs; have H16 := Lib.hid h16
    clear hr hM ha c0 hr0 hu hso hat hown h hs h16
    go_enter Try.func28, Try.ntmps28
    go_upto_region 1 with (fail)
    refine wp_gen (fun Wv => Bx Wv (w.heap.size) (26) (#[tv, ov, sv]) ∧ Bx Wv (w.heap.size + 1) (28) (#[.int .i64 k, .int .i64 g]) ∧ Bx Wv (w.heap.size + 1 + 1) (26) (#[.slice none 0 0, .slice none 0 0, .slice none 0 0]) ∧ Below w.heap.size w Wv) ⟨((((Bx.at_ (by simp)).alloc _).alloc _)), (((Bx.at_ (by simp)).alloc _)), ((Bx.at_ (by simp))), ((((Below.refl _ w).alloc (by simp <;> omega) _).alloc (by simp <;> omega) _).alloc (by simp <;> omega) _)⟩ ?_
    rintro wa1 ⟨g1, g2, g3, b⟩
    replace B := B.trans (b.mono B.size); clear b
    have c_g1 := g1.cell; have f_g1 := g1.free; have a_g1 := fun o => (g1.alloc o).cell; have d_g1 := fun o o2 => ((g1.alloc o).alloc o2).cell; have e_g1 := fun o => (g1.alloc o).free
    have c_g2 := g2.cell; have f_g2 := g2.free; have a_g2 := fun o => (g2.alloc o).cell; have d_g2 := fun o o2 => ((g2.alloc o).alloc o2).cell; have e_g2 := fun o => (g2.alloc o).free
    have c_g3 := g3.cell; have f_g3 := g3.free; have a_g3 := fun o => (g3.alloc o).cell; have d_g3 := fun o o2 => ((g3.alloc o).alloc o2).cell; have e_g3 := fun o => (g3.alloc o).free
    have hz1 := B.size; have hp1 := g3.lt
    go_wp2_with fail
    refine (OT.out _ (H.out.below B)).mono ?_
    rintro e wa2 ⟨t', o', s', rfl, om, b⟩
    try clear c_g1 f_g1 a_g1 d_g1 e_g1
    replace g1 := g1.below b; have c_g1 := g1.cell; have f_g1 := g1.free; have a_g1 := fun o => (g1.alloc o).cell; have d_g1 := fun o o2 => ((g1.alloc o).alloc o2).cell; have e_g1 := fun o => (g1.alloc o).free; try clear c_g2 f_g2 a_g2 d_g2 e_g2
    replace g2 := g2.below b; have c_g2 := g2.cell; have f_g2 := g2.free; have a_g2 := fun o => (g2.alloc o).cell; have d_g2 := fun o o2 => ((g2.alloc o).alloc o2).cell; have e_g2 := fun o => (g2.alloc o).free; try clear c_g3 f_g3 a_g3 d_g3 e_g3
    replace g3 := g3.below b; have c_g3 := g3.cell; have f_g3 := g3.free; have a_g3 := fun o => (g3.alloc o).cell; have d_g3 := fun o o2 => ((g3.alloc o).alloc o2).cell; have e_g3 := fun o => (g3.alloc o).free; replace B := B.trans (b.mono B.size); clear b
    obtain ⟨⟨tA, tn, tc, rfl⟩, ⟨oA, on, oc, rfl⟩, _⟩ := om.forms
    obtain ⟨gS, sc, rfl⟩ : ∃ g c, s' = .slice (some ⟨g, 0, none⟩) 16 c := by obtain ⟨g, n, c, e, e2⟩ := om.s.form (by have := H16.out; omega); rw [e2, H16.out] at e; exact ⟨g, c, e⟩
    have hgS := om.s.lt gS rfl
    go_upto_region 2 with (fail)
    refine wp_gen (fun Wv => Bx Wv (wa2.heap.size) (26) (#[.slice tA tn tc, .slice oA on oc, .slice (some ⟨gS, 0, none⟩) 16 sc]) ∧ Below wa2.heap.size wa2 Wv) ⟨((Bx.at_ (by simp))), ((Below.refl _ wa2).alloc (by simp <;> omega) _)⟩ ?_
    rintro wa3 ⟨g4, b⟩
    try clear c_g1 f_g1 a_g1 d_g1 e_g1
    replace g1 := g1.below b; have c_g1 := g1.cell; have f_g1 := g1.free; have a_g1 := fun o => (g1.alloc o).cell; have d_g1 := fun o o2 => ((g1.alloc o).alloc o2).cell; have e_g1 := fun o => (g1.alloc o).free; try clear c_g2 f_g2 a_g2 d_g2 e_g2
    replace g2 := g2.below b; have c_g2 := g2.cell; have f_g2 := g2.free; have a_g2 := fun o => (g2.alloc o).cell; have d_g2 := fun o o2 => ((g2.alloc o).alloc o2).cell; have e_g2 := fun o => (g2.alloc o).free; try clear c_g3 f_g3 a_g3 d_g3 e_g3
    replace g3 := g3.below b; have c_g3 := g3.cell; have f_g3 := g3.free; have a_g3 := fun o => (g3.alloc o).cell; have d_g3 := fun o o2 => ((g3.alloc o).alloc o2).cell; have e_g3 := fun o => (g3.alloc o).free; replace om := om.below b; replace B := B.trans (b.mono B.size); clear b
    have c_g4 := g4.cell; have f_g4 := g4.free; have a_g4 := fun o => (g4.alloc o).cell; have d_g4 := fun o o2 => ((g4.alloc o).alloc o2).cell; have e_g4 := fun o => (g4.alloc o).free
    have HP := Lib.hid (OwnS.put3 (k := k) om.s (by have := H16.out; omega) ⟨g, false, 0⟩)
    obtain ⟨ix, p0, p1, p2⟩ := OwnS.cells om.s HS.out
    have fz := HP.out.2.2.2.2
    have hM3 := OwnM.slots om HP.out.2.1 HP.out.1
    have nx := fun {q : Nat} {tq : TypeId} {cs : Array Value} (hb : Bx wa3 q tq cs) (hne : gS ≠ q) => hb.grown HP.out.2.1 (.inr (fun e => hne (by injection e)))
    have r3 := nx g3 (by omega); have r4 := nx g4 (by omega)
    have hb3 := B.grown HP.out.2.1 B.size (fun k hk => by injection hk with hk; rw [← hk]; have := HP.out.2.2.1; omega)
    have HH := Lib.hid (And.intro hM3 (And.intro r3 (And.intro r4 hb3)))
    clear nx r3 r4 hb3 hM3
    go_upto_region 5 with (fail)
    refine wp_gen (fun Wv => OwnM Wv wa1.heap.size 67 (.slice tA tn tc) (.slice oA on oc) (.slice (some ⟨gS, 0, none⟩) 16 sc) ⟨m.types, m.objs, m.slots.set k ⟨g, false, 0⟩⟩ ∧ Bx Wv (w.heap.size + 1 + 1) 26 #[.slice none 0 0, .slice none 0 0, .slice none 0 0] ∧ Bx Wv wa2.heap.size 26 #[.slice tA tn tc, .slice oA on oc, .slice (some ⟨gS, 0, none⟩) 16 sc] ∧ Below w.heap.size w Wv) HH.out ?_
    rintro wz ⟨om2, r3, r4, B2⟩
    clear HH om g1 g2 g3 g4 B p0 p1 p2 fz ix HP c_g1 f_g1 a_g1 d_g1 e_g1 c_g2 f_g2 a_g2 d_g2 e_g2 c_g3 f_g3 a_g3 d_g3 e_g3 c_g4 f_g4 a_g4 d_g4 e_g4
    have c3 := r3.cell; have f3 := r3.free; have c4 := r4.cell
    go_wp2
    refine bodyPost_ret (v := .tuple #[.agg #[.slice tA tn tc, .slice oA on oc, .slice (some ⟨gS, 0, none⟩) 16 sc], .int .i64 0]) (by simp [results, Try.results28, go_sem, c3, f3]) rfl ?_
    refine ⟨_, _, _, rfl, (OwnM.set3 om2 r3).rd, ?_⟩
    exact ((B2.setCell (p := ⟨w.heap.size + 1 + 1, 0, none⟩) (by simp; omega) _).setCell (p := ⟨w.heap.size + 1 + 1, 1, none⟩) (by simp; omega) _).setCell (p := ⟨w.heap.size + 1 + 1, 2, none⟩) (by simp; omega) _
  · have OT := Lib.hid (fun w h => open20_no tv ov sv m sl g r hr (by rw [hr]; exact ha) w h)
    have hM1 : M = .nil := by rw [hM, dropM, if_neg ha]
    have hne : (r != 0) = true := by rw [bne_iff_ne, hr]; exact ha
    subst hM1
    clear hr hM ha h
    go_enter Try.func28, Try.ntmps28
    go_upto_region 1 with (fail)
    refine wp_gen (fun Wv => Bx Wv (w.heap.size) (26) (#[tv, ov, sv]) ∧ Bx Wv (w.heap.size + 1) (28) (#[.int .i64 sl, .int .i64 g]) ∧ Bx Wv (w.heap.size + 1 + 1) (26) (#[.slice none 0 0, .slice none 0 0, .slice none 0 0]) ∧ Below w.heap.size w Wv) ⟨((((Bx.at_ (by simp)).alloc _).alloc _)), (((Bx.at_ (by simp)).alloc _)), ((Bx.at_ (by simp))), ((((Below.refl _ w).alloc (by simp <;> omega) _).alloc (by simp <;> omega) _).alloc (by simp <;> omega) _)⟩ ?_
    rintro wa1 ⟨g1, g2, g3, b⟩
    replace B := B.trans (b.mono B.size); clear b
    have c_g1 := g1.cell; have f_g1 := g1.free; have a_g1 := fun o => (g1.alloc o).cell; have d_g1 := fun o o2 => ((g1.alloc o).alloc o2).cell; have e_g1 := fun o => (g1.alloc o).free
    have c_g2 := g2.cell; have f_g2 := g2.free; have a_g2 := fun o => (g2.alloc o).cell; have d_g2 := fun o o2 => ((g2.alloc o).alloc o2).cell; have e_g2 := fun o => (g2.alloc o).free
    have c_g3 := g3.cell; have f_g3 := g3.free; have a_g3 := fun o => (g3.alloc o).cell; have d_g3 := fun o o2 => ((g3.alloc o).alloc o2).cell; have e_g3 := fun o => (g3.alloc o).free
    go_wp2_with fail
    refine (OT.out _ (H.out.below B)).mono ?_
    rintro e wa2 ⟨rfl, b⟩
    try clear c_g1 f_g1 a_g1 d_g1 e_g1
    replace g1 := g1.below b; have c_g1 := g1.cell; have f_g1 := g1.free; have a_g1 := fun o => (g1.alloc o).cell; have d_g1 := fun o o2 => ((g1.alloc o).alloc o2).cell; have e_g1 := fun o => (g1.alloc o).free; try clear c_g2 f_g2 a_g2 d_g2 e_g2
    replace g2 := g2.below b; have c_g2 := g2.cell; have f_g2 := g2.free; have a_g2 := fun o => (g2.alloc o).cell; have d_g2 := fun o o2 => ((g2.alloc o).alloc o2).cell; have e_g2 := fun o => (g2.alloc o).free; try clear c_g3 f_g3 a_g3 d_g3 e_g3
    replace g3 := g3.below b; have c_g3 := g3.cell; have f_g3 := g3.free; have a_g3 := fun o => (g3.alloc o).cell; have d_g3 := fun o o2 => ((g3.alloc o).alloc o2).cell; have e_g3 := fun o => (g3.alloc o).free; replace B := B.trans (b.mono B.size); clear b
    go_upto_region 2 with (fail)
    refine wp_gen (fun Wv => Bx Wv (wa2.heap.size) (26) (#[.slice none 0 0, .slice none 0 0, .slice none 0 0]) ∧ Below wa2.heap.size wa2 Wv) ⟨((Bx.at_ (by simp))), ((Below.refl _ wa2).alloc (by simp <;> omega) _)⟩ ?_
    rintro wa3 ⟨g4, b⟩
    try clear c_g1 f_g1 a_g1 d_g1 e_g1
    replace g1 := g1.below b; have c_g1 := g1.cell; have f_g1 := g1.free; have a_g1 := fun o => (g1.alloc o).cell; have d_g1 := fun o o2 => ((g1.alloc o).alloc o2).cell; have e_g1 := fun o => (g1.alloc o).free; try clear c_g2 f_g2 a_g2 d_g2 e_g2
    replace g2 := g2.below b; have c_g2 := g2.cell; have f_g2 := g2.free; have a_g2 := fun o => (g2.alloc o).cell; have d_g2 := fun o o2 => ((g2.alloc o).alloc o2).cell; have e_g2 := fun o => (g2.alloc o).free; try clear c_g3 f_g3 a_g3 d_g3 e_g3
    replace g3 := g3.below b; have c_g3 := g3.cell; have f_g3 := g3.free; have a_g3 := fun o => (g3.alloc o).cell; have d_g3 := fun o o2 => ((g3.alloc o).alloc o2).cell; have e_g3 := fun o => (g3.alloc o).free; replace B := B.trans (b.mono B.size); clear b
    have c_g4 := g4.cell; have f_g4 := g4.free; have a_g4 := fun o => (g4.alloc o).cell; have d_g4 := fun o o2 => ((g4.alloc o).alloc o2).cell; have e_g4 := fun o => (g4.alloc o).free
    go_wp2
    refine bodyPost_ret (v := .tuple #[.agg #[.slice none 0 0, .slice none 0 0, .slice none 0 0], .int .i64 r]) (by simp [results, Try.results28, go_sem, c_g3, f_g3]) rfl ?_
    refine ⟨_, _, _, rfl, Mod.nil _, ?_⟩
    (repeat (first | refine Below.setCell ?_ (by first | exact Nat.le_refl _ | (simp <;> omega)) _ | refine Below.alloc ?_ (by first | exact B.size | (have := B.size; simp <;> omega)) _)); exact B
end Go.Proofs.Ytgjpohhafmkhcaa
namespace Go.Proofs.Ytgjpohhafmkhcaa
open Go.RowKit L02 L13 L18 L20
end Go.Proofs.Ytgjpohhafmkhcaa
namespace Go.Proofs.Ytgjpohhafmkhcaa
open Go.RowKit L02 L13 L18 L20
end Go.Proofs.Ytgjpohhafmkhcaa
namespace Go.Proofs.Ytgjpohhafmkhcaa
open Go.RowKit L02 L13 L18 L20
theorem ob_at {m : Mo} {i : Nat} {o : Ob} (h : m.objs[i]? = some o) : ob m i = o := by simp [ob, List.getD_eq_getElem?_getD, h]
end Go.Proofs.Ytgjpohhafmkhcaa
namespace Go.Proofs.Ytgjpohhafmkhcaa
open Go.RowKit L02 L13 L18 L20
/-- the number of a slot is stored -/
theorem OwnS.put1 {w : World} {B E g n c k : Nat} {S : List Sl} {s : Sl} (h : OwnS w B E (.slice (some ⟨g, 0, none⟩) n c) S) (hs : S[k]? = some s) (a : Int) :
    OwnS (w.setCell ⟨g, k * 3 + 2, none⟩ (.int .i64 a)) B E (.slice (some ⟨g, 0, none⟩) n c) (S.set k ⟨s.gen, s.used, a⟩) ∧
      w.grownBy (w.setCell ⟨g, k * 3 + 2, none⟩ (.int .i64 a)) (some g) ∧ B ≤ g ∧ g < w.heap.size ∧ ∀ j, w.frozen? ⟨g, j, none⟩ = false := by
  have hk : k < S.length := (List.getElem?_eq_some_iff.1 hs).1
  have hn : n = S.length := by
    obtain ⟨g', cap, cur, hv, _⟩ := own_form h (by omega)
    injection hv
  subst hn
  have h3 := World.ownsRow.stored h (k * 3 + 2) (.int .i64 a)
  have hl := h.lt g rfl
  have hsame : ∀ i : Nat, i < 3 → ∀ u, (slC s)[i]? = some u → (tabL S).set (k * 3 + i) u = tabL S := by
    intro i hi u hu
    have t0 := tabL_get S k s hs i hi
    rw [hu] at t0
    apply List.ext_getElem?
    intro j
    by_cases hj : j = k * 3 + i
    · subst hj
      rw [List.getElem?_set_self (List.getElem?_eq_some_iff.1 t0).1, t0]
    · rw [List.getElem?_set_ne (Ne.symm hj)]
  have h0 := hsame 0 (by omega) (.int .i64 s.gen) rfl
  have h1 := hsame 1 (by omega) (.bool s.used) rfl
  rw [Nat.add_zero] at h0
  refine ⟨?_, h3.2, hl.1, hl.2, fun j => h.frozenAt j⟩
  unfold OwnS
  rw [← tabL_set S k ⟨s.gen, s.used, a⟩ hk, List.length_set]
  show World.ownsRow _ _ _ _ _ _ ((((tabL S).set (k * 3) (.int .i64 s.gen)).set (k * 3 + 1) (.bool s.used)).set (k * 3 + 2) (.int .i64 a))
  rw [h0, h1]
  exact h3.1
theorem own_ne_bx {w : World} {B e sz n n' p g c : Nat} {xs : List Value} {t : TypeId} {cs : Array Value} (h : w.ownsRow B e sz (.slice (some ⟨g, 0, none⟩) n c) n' xs) (hg : Bx w p t cs) (hne : e ≠ t) : g ≠ p := by
  rintro rfl
  rcases own_not_bx h hg hne with h | h
  · cases h
  · exact h rfl
/-- an index of another kind -/
theorem Rd.ixU {w : World} {sz n : Nat} {v : Value} {xs : List Value} {t e : TypeId} (h : Rd w sz v n xs) (ht : Try.prog.underlying t = some (.slice e)) (hi : (Try.prog.info? e).map (·.size) = some sz) {k : Nat} (hk : k < n) (W : World) :
    (Instr.indexAt t v (.int .u64 (k : Int))).run Try.prog W = .ok (.pointer (some (cellAt v (k * sz)))) W := by
  obtain ⟨i, hi', rfl⟩ := Option.map_eq_some_iff.1 hi
  clear hi
  obtain ⟨A, c, rfl, h1, _, h2, h3, h4⟩ := h
  cases A with
  | none => have := h3 rfl; omega
  | some ad =>
    obtain ⟨b, o, s⟩ := ad
    have := (h4 (by omega) _ rfl).1
    simp at this; subst this
    simp [Instr.indexAt, run_underlying ht, asIntOf, hk, sizeOf, typeInfo, hi', cellAt, Addr.add]
theorem Ints.atU {w : World} {v : Value} {l : List Int} (h : Ints w v l) {k : Nat} (hk : k < l.length) :
    ∃ ad x, (∀ W, (Instr.indexAt 52 v (.int .u64 (k : Int))).run Try.prog W = .ok (.pointer (some ad)) W) ∧ w.cell? ad = some (.int .i64 x) ∧ Hid (l[k]? = some x) :=
  ⟨_, l[k], fun W => Rd.ixU h Try.underlying52 one_int hk W, by rw [Nat.mul_one]; exact Rd.cell h (by simp [hk]; rfl), by unfold Hid; simp [hk]⟩
end Go.Proofs.Ytgjpohhafmkhcaa
namespace Go.Proofs.Ytgjpohhafmkhcaa
open Go.RowKit L02 L13 L18 L20
/-- all blocks from b on, but rows of words, are as they were -/
def Fr (b : Nat) (w w' : World) : Prop := w.heap.size ≤ w'.heap.size ∧ ∀ (g : Nat) (t : TypeId) (cs : Array Value), b ≤ g → t ≠ 29 → Bx w g t cs → Bx w' g t cs
theorem Bx.fr {b g : Nat} {w w' : World} {t : TypeId} {cs : Array Value} (h : Bx w g t cs) (hf : Fr b w w') (hb : b ≤ g) (ht : t ≠ 29) : Bx w' g t cs := hf.2 g t cs hb ht h
/-- rows of bytes stay -/
def KeepB (B : Nat) (w w' : World) : Prop := ∀ (v : Value) (l : List UInt8), OwnB w B 5 v l → OwnB w' B 5 v l
theorem OwnT.atB {w : World} {base : Nat} {v : Value} {L : List (List UInt8)} (h : OwnT w base v L) {k : Nat} {l : List UInt8} (hl : L[k]? = some l) :
    ∃ ad y, (∀ W, (Instr.indexAt 22 v (.int .i64 (k : Int))).run Try.prog W = .ok (.pointer (some ad)) W) ∧ w.cell? ad = some y ∧ OwnB w base 5 y l := by
  obtain ⟨vs, h1, h2, h4⟩ := h
  have hk : k < L.length := (List.getElem?_eq_some_iff.1 hl).1
  have hv : vs[k]? = some vs[k] := List.getElem?_eq_getElem (by omega)
  exact ⟨cellAt v (k * 1), vs[k], fun W => Rd.ixN (Rd.of_own h2) Try.underlying22 one_bytes hk W, by rw [Nat.mul_one]; exact Rd.cell (Rd.of_own h2) hv, h4 k _ _ hv hl⟩
/-- right types, not great -/
structure Rough (m : Mo) : Prop where
  n : m.objs.length ≤ 1000
  o : ∀ o ∈ m.objs, (0 ≤ o.ty ∧ o.ty < m.types.length) ∧ o.fs.length = (ty m.types o).length ∧ o.fs.length ≤ 20
set_option maxRecDepth 100000 in
set_option maxHeartbeats 16000000 in
theorem refs_any (m : Mo) (tv ov sv : Value) (fid : Nat) (first cap : Array Value) (B0 : Nat) (J : Nat → Nat → Mo → World → Prop) (w : World) (hw : B0 ≤ w.heap.size) (hr : Rough m) (hcf : ∀ args W, (callFunc fid args).run Try.prog W = .ok (.enter fid args) W)
    (hst : ∀ n i m' W W', J n i m' W → Below W.heap.size W W' → J n i m' W')
    (hnx : ∀ n m' W, n < m.objs.length → J n (ob m n).fs.length m' W → J (n + 1) 0 m' W)
    (hno : ∀ n i m' W, n < m.objs.length → i < (ob m n).fs.length → ((ty m.types (ob m n)).getD i 0).toNat ≠ 3 → J n i m' W → J n (i + 1) m' W)
    (hcl : ∀ n i m' gf W, n < m.objs.length → i < (ob m n).fs.length → ((ty m.types (ob m n)).getD i 0).toNat = 3 → Like m m' → w.heap.size ≤ W.heap.size → OwnM W B0 67 tv ov sv m' → OwnF W B0 ov m'.objs n gf → J n i m' W →
      Calls Try.prog fid (first ++ (#[.int .i64 n, .pointer (some ⟨gf, i, none⟩)] ++ cap)) W fun e W' => e = .returned (.tuple #[]) ∧ ∃ m'', Like m m'' ∧ OwnM W' B0 67 tv ov sv m'' ∧ OwnF W' B0 ov m''.objs n gf ∧ J n (i + 1) m'' W' ∧ Fr w.heap.size W W' ∧ KeepB B0 W W')
    (m0 : Mo) (hl : Like m m0) (h : OwnM w B0 67 tv ov sv m0) (hj : J 0 0 m0 w) :
    Calls Try.prog 52 #[.agg #[tv, ov, sv], .func (.func fid) first cap] w fun e w' => e = .returned (.tuple #[]) ∧ ∃ m', Like m m' ∧ OwnM w' B0 67 tv ov sv m' ∧ J m.objs.length 0 m' w' := by
  obtain ⟨N, hN⟩ : ∃ N, N = m.objs.length := ⟨_, rfl⟩
  have HST := Lib.hid hst; have HNX := Lib.hid hnx; have HNO := Lib.hid hno; have HCL := Lib.hid hcl; have HR := Lib.hid hr; have HN := Lib.hid hN; have HL0 := Lib.hid hl
  have hN1 : N ≤ 1000 := by rw [hN]; exact hr.n
  clear hst hnx hno hcl hr hl hN
  obtain ⟨tA, tn, tc, rfl⟩ := h.forms.1
  obtain ⟨oA, on, oc, rfl⟩ := h.forms.2.1
  obtain ⟨sA, sn, sc, rfl⟩ := h.forms.2.2
  go_enter Try.func52, Try.ntmps52
  go_upto_region 1 with (fail)
  have b := (Below.refl w.heap.size w).alloc (Nat.le_refl _) (.cells #[.slice tA tn tc, .slice oA on oc, .slice sA sn sc] 26)
  refine wp_gen (fun Wv => Bx Wv w.heap.size 26 #[.slice tA tn tc, .slice oA on oc, .slice sA sn sc] ∧ OwnM Wv B0 67 (.slice tA tn tc) (.slice oA on oc) (.slice sA sn sc) m0 ∧ J 0 0 m0 Wv ∧ w.heap.size < Wv.heap.size) ⟨Bx.at_ (by simp), h.below b, HST.out _ _ _ _ _ hj b, by simp⟩ ?_
  clear b h hj
  rintro wa ⟨g1, om, hj, hz⟩
  have c_g1 := g1.cell
  have lo := om.o.rd.len
  rw [HL0.out.2.1, ← HN.out] at lo
  have HI := Lib.hid (And.intro g1 (And.intro om (And.intro HL0.out (And.intro hj hz))))
  clear g1 om hj HL0
  go_wp2
  clear c_g1 lo
  go_loopg [11] N (fun g i wr => ∃ n : Nat, n ≤ N ∧ g = N - n ∧ i = .int .i64 n ∧ Hid (∃ m', Bx wr w.heap.size 26 #[.slice tA tn tc, .slice oA on oc, .slice sA sn sc] ∧ OwnM wr B0 67 (.slice tA tn tc) (.slice oA on oc) (.slice sA sn sc) m' ∧ Like m m' ∧ J n 0 m' wr ∧ w.heap.size < wr.heap.size))
  case atStart => exact ⟨0, by omega, by omega, rfl, Lib.hid ⟨_, HI.out⟩⟩
  case round =>
    clear HI hz
    obtain ⟨n, hn, rfl, rfl, hh⟩ := hrel
    obtain ⟨m', g1, om, hl, hj, hz⟩ := hh.out
    by_cases hlt : n < N
    · have hnm : n < m.objs.length := by rw [← HN.out]; exact hlt
      obtain ⟨o, ho⟩ : ∃ o, m'.objs[n]? = some o := ⟨_, List.getElem?_eq_getElem (by rw [hl.2.1]; exact hnm)⟩
      have hob : ob m' n = o := ob_at ho
      obtain ⟨oo, hoo⟩ : ∃ o, m.objs[n]? = some o := ⟨_, List.getElem?_eq_getElem hnm⟩
      have hoob : ob m n = oo := ob_at hoo
      have hlk := hl.2.2 n
      rw [hob, hoob] at hlk
      obtain ⟨⟨hq0, hq1⟩, hfl, hf20⟩ := HR.out.o oo (List.mem_of_getElem? hoo)
      obtain ⟨q, hq⟩ := Int.eq_ofNat_of_zero_le hq0
      have hqt : q < m'.types.length := by rw [hl.1]; omega
      obtain ⟨t, ht⟩ : ∃ t, m'.types[q]? = some t := ⟨_, List.getElem?_eq_getElem hqt⟩
      have htt : ty m.types oo = t := by rw [ty, hq, ← hl.1]; simp [List.getD_eq_getElem?_getD, ht]
      have hoq : o.ty = (q : Int) := by rw [hlk.1, hq]
      obtain ⟨nt, hnt⟩ : ∃ nt, nt = t.length := ⟨_, rfl⟩
      have hofl : o.fs.length = nt := by rw [hlk.2, hfl, htt, hnt]
      have hnt20 : nt ≤ 20 := by omega
      have HOF := Lib.hid hofl
      have c_g1 := g1.cell
      obtain ⟨ad, yt, iy, m3, hby⟩ := om.t.atB ht
      have ly := Rd.len (OwnB.rd hby) Try.underlying74
      rw [← hnt] at ly
      by_cases hf : 0 < nt
      · obtain ⟨b, bq, gf, nf, cf, ix, p0, p1, hb, of_, hnf, hix⟩ := om.o.at_ ho (by omega)
        rw [hoq] at p0
        rw [hofl] at hix hnf
        obtain rfl : nt = nf := hnf.symm
        have HNT := Lib.hid hnt; clear hnt hofl
        have HC := Lib.hid (And.intro hl (And.intro hj (And.intro om of_)))
        obtain ⟨wn, hwn⟩ : ∃ W, W = wr := ⟨_, rfl⟩
        subst hwn
        clear hh
        go_upto_region 4 with (fail)
        have b' := (Below.refl wn.heap.size wn).alloc (Nat.le_refl _) (.cells #[.int .i64 (q : Int), .slice (some ⟨gf, 0, none⟩) nt cf] 72)
        refine wp_gen (fun Wv => Bx Wv wn.heap.size 72 #[.int .i64 (q : Int), .slice (some ⟨gf, 0, none⟩) nt cf] ∧ Below wn.heap.size wn Wv ∧ wn.heap.size < Wv.heap.size) ?_ ?_
        · exact ⟨Bx.new wn _ _, b', by simp⟩
        clear b' p0 p1 ix
        rintro wb ⟨g5, b5, hz5⟩
        have HX := Lib.hid (And.intro (g1.below b5) (And.intro g5 (And.intro (OwnM.below HC.out.2.2.1 b5) (And.intro (OwnF.below HC.out.2.2.2 b5) (And.intro HC.out.1 (And.intro (HST.out _ _ _ _ _ HC.out.2.1 b5) (And.intro hz5 (own_below hby b5))))))))
        have c_g1 := (g1.below b5).cell
        have c_g5 := g5.cell
        have m3' := cell_later b5 m3
        clear g1 g5 b5 m3 HC om of_ hj hl hby
        go_wp2
        clear c_g1 c_g5 m3' iy
        go_loopg [23] nt (fun g i wr => ∃ p : Nat, p ≤ nt ∧ g = nt - p ∧ i = .int .i64 p ∧ Hid (∃ m', Bx wr w.heap.size 26 #[.slice tA tn tc, .slice oA on oc, .slice sA sn sc] ∧ Bx wr wn.heap.size 72 #[.int .i64 (q : Int), .slice (some ⟨gf, 0, none⟩) nt cf] ∧ OwnM wr B0 67 (.slice tA tn tc) (.slice oA on oc) (.slice sA sn sc) m' ∧ OwnF wr B0 (.slice oA on oc) m'.objs n gf ∧ Like m m' ∧ J n p m' wr ∧ wn.heap.size < wr.heap.size ∧ OwnB wr B0 5 yt t))
        case atStart => exact ⟨0, by omega, by omega, rfl, Lib.hid ⟨_, HX.out⟩⟩
        case round =>
          clear HX
          obtain ⟨p, hp, rfl, rfl, hh⟩ := hrel
          obtain ⟨m2, g1, g5, om, of_, hl, hj, hz2, hby⟩ := hh.out
          have c_g1 := g1.cell
          have c_g5 := g5.cell
          have ix := hix p
          by_cases hltp : p < nt
          · have ix := hix p (by omega)
            obtain ⟨bd, kk, ib, m4, hkk⟩ := ((OwnB.rd hby).at_ (P := Try.prog) Try.underlying74 one_u8 (k := p) (by rw [← HNT.out]; exact hltp))
            have hpm : p < (ob m n).fs.length := by rw [hoob, ← hlk.2, HOF.out]; exact hltp
            have hkm : (ty m.types (ob m n)).getD p 0 = kk := by rw [hoob, htt]; simp [List.getD_eq_getElem?_getD, hkk.out]
            clear hkk
            by_cases h3 : kk.toNat = 3
            · have k3 : ((kk.toNat : Int) == 3) = true := by rw [beq_iff_eq]; omega
              have HCC := Lib.hid (HCL.out n p m2 gf wr hnm hpm (by rw [hkm]; exact h3) hl (by omega) om of_ hj)
              have HG := Lib.hid (And.intro g1 (And.intro g5 (And.intro hby hz2)))
              clear g1 g5 hby hz2 om of_ hl hj
              go_upto_region 8 with (fail)
              go_wp2_with fail
              refine HCC.out.mono ?_
              rintro e w' ⟨rfl, m3, a1, a2, a3, a4, a5, a6⟩
              obtain ⟨g1, g5, hby, hz2⟩ := HG.out
              have HJ := Lib.hid (And.intro (g1.fr a5 (Nat.le_refl _) (by decide)) (And.intro (g5.fr a5 (by omega) (by decide)) (And.intro a2 (And.intro a3 (And.intro a1 (And.intro a4 (And.intro (Nat.lt_of_lt_of_le hz2 a5.1) (a6 _ _ hby))))))))
              clear a1 a2 a3 a4 a5 a6 g1 g5 hby hz2 HG HCC
              go_wp2
              go_roundg (nt - (p + 1))
              case measure => omega
              case rel => exact ⟨p + 1, by omega, rfl, by go_num, Lib.hid ⟨m3, HJ.out⟩⟩
            · have k3 : ((kk.toNat : Int) == 3) = false := by rw [beq_eq_false_iff_ne]; omega
              have HJ := Lib.hid (HNO.out n p m2 wr hnm hpm (by rw [hkm]; exact h3) hj)
              clear hj
              go_wp2
              go_roundg (nt - (p + 1))
              case measure => omega
              case rel => exact ⟨p + 1, by omega, rfl, by go_num, Lib.hid ⟨m2, g1, g5, om, of_, hl, HJ.out, hz2, hby⟩⟩
          · obtain rfl : p = nt := by omega
            have HJ := Lib.hid (HNX.out n m2 wr hnm (by rw [hoob, ← hlk.2, HOF.out]; exact hj))
            clear hj ix
            go_wp2
            go_roundg (N - (n + 1))
            case measure => omega
            case rel => exact ⟨n + 1, by omega, rfl, by go_num, Lib.hid ⟨m2, g1, om, hl, HJ.out, by omega⟩⟩
      · obtain ⟨bo, bq, x0, o2, ix, p0, p1, ho2, hx0, hob2⟩ := (om.o.rd).at_ (k := n) (by rw [hl.2.1]; exact hnm)
        obtain rfl : o2 = o := by have := ho2.out; rw [ho] at this; injection this with e; exact e.symm
        obtain ⟨xA, xn, xc, rfl⟩ : ∃ A n c, x0 = .slice A n c := by obtain ⟨A, c, e, _⟩ := hx0.out; exact ⟨A, _, c, e⟩
        rw [hoq] at p0
        obtain rfl : nt = 0 := by omega
        clear hx0 ho2 hnt
        have HC := Lib.hid (And.intro hl (And.intro hj om))
        obtain ⟨wn, hwn⟩ : ∃ W, W = wr := ⟨_, rfl⟩
        subst hwn
        clear hh
        go_upto_region 4 with (fail)
        have b' := (Below.refl wn.heap.size wn).alloc (Nat.le_refl _) (.cells #[.int .i64 (q : Int), .slice xA xn xc] 72)
        refine wp_gen (fun Wv => Bx Wv wn.heap.size 72 #[.int .i64 (q : Int), .slice xA xn xc] ∧ Below wn.heap.size wn Wv ∧ wn.heap.size < Wv.heap.size) ?_ ?_
        · exact ⟨Bx.new wn _ _, b', by simp⟩
        clear b' p0 p1 ix
        rintro wb ⟨g5, b5, hz5⟩
        have HX := Lib.hid (And.intro (g1.below b5) (And.intro (OwnM.below HC.out.2.2 b5) (And.intro HC.out.1 (And.intro (HST.out _ _ _ _ _ HC.out.2.1 b5) hz5))))
        have c_g1 := (g1.below b5).cell
        have c_g5 := g5.cell
        have m3' := cell_later b5 m3
        clear g1 g5 b5 m3 HC om hj hl hby
        go_wp2
        clear c_g1 c_g5 m3' iy
        go_loopg [23] 0 (fun g i wr => g = 0 ∧ i = .int .i64 0 ∧ Hid (Bx wr w.heap.size 26 #[.slice tA tn tc, .slice oA on oc, .slice sA sn sc] ∧ OwnM wr B0 67 (.slice tA tn tc) (.slice oA on oc) (.slice sA sn sc) m' ∧ Like m m' ∧ J n 0 m' wr ∧ wn.heap.size < wr.heap.size))
        case atStart => exact ⟨rfl, rfl, HX⟩
        case round =>
          clear HX
          obtain ⟨rfl, rfl, hh⟩ := hrel
          obtain ⟨g1, om, hl, hj, hz2⟩ := hh.out
          have HJ := Lib.hid (HNX.out n m' wr hnm (by rw [hoob, ← hlk.2, HOF.out]; exact hj))
          go_wp2
          go_roundg (N - (n + 1))
          case measure => omega
          case rel => exact ⟨n + 1, by omega, rfl, by go_num, Lib.hid ⟨m', g1, om, hl, HJ.out, by omega⟩⟩
    · obtain rfl : n = N := by omega
      go_wp2
      refine bodyPost_end (results_none rfl _ _ _) rfl ?_
      refine ⟨rfl, m', hl, om, ?_⟩
      rw [← HN.out]; exact hj
end Go.Proofs.Ytgjpohhafmkhcaa
namespace Go.Proofs.Ytgjpohhafmkhcaa
open Go Go.RowKit
section
variable {P : Program} {ops : Array Oper} {w : World}
theorem wpStill_of_quiet {Q : Act → Prop} : ∀ (l : List Oper) (a : Act), wpQuiet P ops (fun W => W = w) Q l a → wpStill P ops w Q l a
  | [], a, h => h
  | o :: l, a, h => by
    unfold wpQuiet at h
    unfold wpStill
    by_cases hw : Region.wanted o (yielded ops a.tmps) = true
    · rw [if_pos hw] at h ⊢
      obtain ⟨v, h1, h2⟩ := h
      have h3 := h1 w rfl
      have h4 := wpStill_of_quiet l _ h2
      unfold Oper.quietAt at h3
      unfold Oper.still
      cases hr : (execOp a.eval o).run P w with
      | ok n w' =>
        rw [hr] at h3
        cases n with
        | value u => obtain ⟨e1, e2⟩ := h3; subst e2; exact ⟨e1, h4⟩
        | skip => obtain ⟨e1, e2⟩ := h3; subst e2; exact ⟨e1, h4⟩
        | enter f args => obtain ⟨e1, e2⟩ := h3; exact ⟨e1, v, e2, h4⟩
        | _ => exact absurd h3 id
      | halt x w' => rw [hr] at h3; exact absurd h3 id
    · rw [if_neg hw] at h ⊢
      exact wpStill_of_quiet l _ h
theorem wp_region_qtail {id : Nat} {Q : Exit → Act → World → Prop} {a : Act} {l : List Oper} (n : Nat) (hm : P.follows .mixedOrders = true) (hB : Region.lexTailB .any l.toArray n = true)
    (h : wpQuiet P l.toArray (fun W => W = w.drew) (fun a' => wpList P l.toArray Q (l.drop n) a' w.drew) (l.take n) a) : (Code.region id l.toArray true).wp P Q a w :=
  wp_region_still_tail n hm hB (wpStill_of_quiet _ _ h)
end
end Go.Proofs.Ytgjpohhafmkhcaa
namespace Go.Proofs.Ytgjpohhafmkhcaa
open Go.RowKit L02 L13 L18 L20
set_option maxRecDepth 100000 in
set_option maxHeartbeats 4000000 in
theorem Free1_any (k own gf i pb po : Nat) (v : UInt64) (b b' : Bool) (hb' : b' = (b || (decide (k ≠ own) && decide (v.toNat = own + 1)))) (ho : own ≤ 1000) (w : World)
    (hv : w.cell? ⟨gf, i, none⟩ = some (.int .u64 v.toNat)) (hf : w.frozen? ⟨gf, i, none⟩ = false) (g1 : Bx w pb 4 #[.bool b]) (g2 : Bx w po 3 #[.int .i64 own]) (n1 : gf ≠ pb) (n2 : po ≠ pb) :
    Calls Try.prog 57 #[.int .i64 k, .pointer (some ⟨gf, i, none⟩), .pointer (some ⟨pb, 0, none⟩), .pointer (some ⟨po, 0, none⟩)] w fun e w' => e = .returned (.tuple #[]) ∧
      ∃ q, w' = if own + 1 < v.toNat then (((w.drew).setCell ⟨pb, 0, none⟩ (.bool b')).drewN q).setCell ⟨gf, i, none⟩ (.int .u64 (v.toNat - 1 : Nat)) else ((w.drew).setCell ⟨pb, 0, none⟩ (.bool b')).drewN q := by
  obtain ⟨vn, hvn⟩ : ∃ n, n = v.toNat := ⟨_, rfl⟩
  have hvl := v.toNat_lt
  rw [← hvn] at hv hb' hvl ⊢
  have c1 := g1.cell; have f1 := g1.free; have c2 := g2.cell
  have hw1 : IntKind.u64.wrap (own : Int) = (own : Int) := by show (own : Int) % 18446744073709551616 = _; omega
  have hw2 : IntKind.u64.wrap ((own : Int) + 1) = (own : Int) + 1 := by show ((own : Int) + 1) % 18446744073709551616 = _; omega
  have HB := Lib.hid hb'
  clear hb' hvn
  obtain ⟨R, hR⟩ : ∃ R : World → Prop, R = fun w' => ∃ q, w' = if own + 1 < vn then (((w.drew).setCell ⟨pb, 0, none⟩ (.bool b')).drewN q).setCell ⟨gf, i, none⟩ (.int .u64 (vn - 1 : Nat)) else ((w.drew).setCell ⟨pb, 0, none⟩ (.bool b')).drewN q := ⟨_, rfl⟩
  have HR := Lib.hid hR
  have HG := Lib.hid (And.intro (show Bx w.drew pb 4 #[.bool b] from g1) (And.intro (show Bx w.drew po 3 #[.int .i64 own] from g2) (And.intro (show w.drew.cell? ⟨gf, i, none⟩ = some (.int .u64 vn) from hv) (show w.drew.frozen? ⟨gf, i, none⟩ = false from hf))))
  have main : Calls Try.prog 57 #[.int .i64 k, .pointer (some ⟨gf, i, none⟩), .pointer (some ⟨pb, 0, none⟩), .pointer (some ⟨po, 0, none⟩)] w fun e w' => e = .returned (.tuple #[]) ∧ R w' := by
    clear hR g1 g2
    have cases : (b = true ∧ b' = true) ∨ (b = false ∧ b' = false ∧ ((k : Int) != (own : Int)) = false) ∨ (b = false ∧ b' = false ∧ ((k : Int) != (own : Int)) = true ∧ ((vn : Int) == (own : Int) + 1) = false) ∨ (b = false ∧ b' = true ∧ ((k : Int) != (own : Int)) = true ∧ ((vn : Int) == (own : Int) + 1) = true) := by
      rw [HB.out]
      cases b
      · refine .inr ?_
        by_cases hk : k = own
        · exact .inl ⟨rfl, by simp [hk], by rw [bne_eq_false_iff_eq]; omega⟩
        · refine .inr ?_
          by_cases h2 : vn = own + 1
          · exact .inr ⟨rfl, by simp [hk, h2], by rw [bne_iff_ne]; omega, by rw [beq_iff_eq]; omega⟩
          · exact .inl ⟨rfl, by simp [h2], by rw [bne_iff_ne]; omega, by rw [beq_eq_false_iff_ne]; omega⟩
      · exact .inl ⟨rfl, by simp⟩
    rcases cases with ⟨rfl, rfl⟩ | ⟨rfl, rfl, hk1⟩ | ⟨rfl, rfl, hk1, hv1⟩ | ⟨rfl, rfl, hk1, hv1⟩
    all_goals
      clear HB
      go_enter Try.func57, Try.ntmps57
      go_upto_region 0 with (fail)
      refine wp_region_qtail 15 (by kernel_rfl) (by kernel_rfl) ?_
      simp only [List.take_succ_cons, List.take_zero, List.drop_succ_cons, List.drop_zero]
      iterate 15 (go_big_quiet_step (fail))
      refine wpQuiet_nil ?_
      clear c1 f1 c2 hv hf
      have c1 := HG.out.1.cell; have f1 := HG.out.1.free
      go_upto_region 1 with (fail)
      refine wp_gen (fun Wv => Wv = (w.drew).setCell ⟨pb, 0, none⟩ (.bool _)) rfl ?_
      intro W hW
      have hv : W.cell? ⟨gf, i, none⟩ = some (.int .u64 vn) := by rw [hW]; exact cell_far (q := ⟨pb, 0, none⟩) HG.out.2.2.1 n1
      have hf : W.frozen? ⟨gf, i, none⟩ = false := by rw [hW, World.frozen?_setCell]; exact HG.out.2.2.2
      have c2 : ∀ i : Nat, W.cell? ⟨po, i, none⟩ = #[Value.int .i64 (own : Int)][i]? := fun i => by rw [hW]; exact (HG.out.2.1.far (p := ⟨pb, 0, none⟩) n2 _).cell i
      have HW := Lib.hid hW
      clear hW HG c1 f1
      try clear hk1 hv1
      try clear hk1
      by_cases hlt : own + 1 < vn
      · have hd : decide ((own : Int) + 1 < (vn : Int)) = true := by rw [decide_eq_true_iff]; omega
        have hw3 : IntKind.u64.wrap ((vn : Int) - 1) = (vn : Int) - 1 := by show ((vn : Int) - 1) % 18446744073709551616 = _; omega
        go_big_quiet (fail)
        go_wp2
        refine bodyPost_end (results_none rfl _ _ _) rfl ⟨rfl, ?_⟩
        rw [HR.out]
        refine ⟨nq, ?_⟩
        rw [if_pos hlt, ← HW.out]
        congr 2; omega
      · have hd : decide ((own : Int) + 1 < (vn : Int)) = false := by rw [decide_eq_false_iff_not]; omega
        go_big_quiet (fail)
        go_wp2
        refine bodyPost_end (results_none rfl _ _ _) rfl ⟨rfl, ?_⟩
        rw [HR.out]
        refine ⟨nq, ?_⟩
        rw [if_neg hlt, ← HW.out]
  subst hR; exact main
set_option maxRecDepth 100000 in
set_option maxHeartbeats 4000000 in
theorem Canon1_any (k gf i pc pf : Nat) (v : UInt64) (tv ov sv nv rv : Value) (ks : List Int) (x : Int) (w : World) (hx : 0 < v.toNat → ks[v.toNat - 1]? = some x) (hx0 : 0 ≤ x ∧ x ≤ 1000) (hl : v.toNat ≤ 1000)
    (hv : w.cell? ⟨gf, i, none⟩ = some (.int .u64 v.toNat)) (hf : w.frozen? ⟨gf, i, none⟩ = false) (g1 : Bx w pc 93 #[.pointer (some ⟨pf, 0, none⟩)]) (g2 : Bx w pf 95 #[tv, ov, sv, nv, rv]) (hn : Ints w nv ks) :
    Calls Try.prog 53 #[.int .i64 k, .pointer (some ⟨gf, i, none⟩), .pointer (some ⟨pc, 0, none⟩)] w fun e w' => e = .returned (.tuple #[]) ∧
      w' = if 0 < v.toNat then (w.drew).setCell ⟨gf, i, none⟩ (.int .u64 x) else w := by
  obtain ⟨vn, hvn⟩ : ∃ n, n = v.toNat := ⟨_, rfl⟩
  rw [← hvn] at hv hx hl ⊢
  have c1 := g1.cell; have c2 := g2.cell
  have hw3 : IntKind.u64.wrap x = x := by show x % 18446744073709551616 = _; omega
  obtain ⟨R, hR⟩ : ∃ R : World → Prop, R = fun w' => w' = if 0 < vn then (w.drew).setCell ⟨gf, i, none⟩ (.int .u64 x) else w := ⟨_, rfl⟩
  have HR := Lib.hid hR; have HN := Lib.hid hn; have HX := Lib.hid hx
  have main : Calls Try.prog 53 #[.int .i64 k, .pointer (some ⟨gf, i, none⟩), .pointer (some ⟨pc, 0, none⟩)] w fun e w' => e = .returned (.tuple #[]) ∧ R w' := by
    clear hR g1 g2 hn hvn hx
    by_cases h0 : 0 < vn
    · obtain ⟨q, rfl⟩ : ∃ q, vn = q + 1 := ⟨vn - 1, by omega⟩
      have hxx := HX.out h0
      rw [Nat.add_sub_cancel] at hxx
      obtain ⟨nd, x2, ind, m6, hx2⟩ := HN.out.atU (k := q) (List.getElem?_eq_some_iff.1 hxx).1
      obtain rfl : x2 = x := by have := hx2.out; rw [hxx] at this; injection this with e; exact e.symm
      have hv' : w.cell? ⟨gf, i, none⟩ = some (.int .u64 ((q : Int) + 1)) := by rw [hv]; rfl
      have hne : ((q : Int) + 1 != 0) = true := by rw [bne_iff_ne]; omega
      have z2 : IntKind.u64.wrap (q : Int) = (q : Int) := by show (q : Int) % 18446744073709551616 = _; omega
      clear hv h0 hx2 hxx
      go_enter Try.func53, Try.ntmps53
      go_upto_region 1 with (fail)
      refine wp_region_qtail 13 (by kernel_rfl) (by kernel_rfl) ?_
      simp only [List.take_succ_cons, List.take_zero, List.drop_succ_cons, List.drop_zero]
      iterate 13 (go_big_quiet_step (fail))
      refine wpQuiet_nil ?_
      have hv2 : w.drew.cell? ⟨gf, i, none⟩ = some (.int .u64 ((q : Int) + 1)) := hv'
      have hf2 : w.drew.frozen? ⟨gf, i, none⟩ = false := hf
      clear c1 c2 m6 hv' hf
      go_wp2
      refine bodyPost_end (results_none rfl _ _ _) rfl ⟨rfl, ?_⟩
      rw [HR.out]
      show _ = if 0 < q + 1 then _ else _
      rw [if_pos (by omega)]
      rfl
    · obtain rfl : vn = 0 := by omega
      have hv' : w.cell? ⟨gf, i, none⟩ = some (.int .u64 0) := by rw [hv]; rfl
      clear hv
      go_enter Try.func53, Try.ntmps53
      go_wp2
      refine bodyPost_end (results_none rfl _ _ _) rfl ⟨rfl, ?_⟩
      rw [HR.out]
      rfl
  subst hR; exact main
end Go.Proofs.Ytgjpohhafmkhcaa
namespace Go.Proofs.Ytgjpohhafmkhcaa
open Go.RowKit L02 L13 L18 L20
theorem obC_erase : ∀ {L : List Ob} {vs : List Value} {i : Nat}, vs.length = L.length → obC (L.eraseIdx i) (vs.eraseIdx i) = (obC L vs).take (i * 2) ++ (obC L vs).drop ((i + 1) * 2)
  | [], [], i, _ => by simp [obC]
  | [], _ :: _, _, h => by simp at h
  | _ :: _, [], _, h => by simp at h
  | o :: L, x :: vs, 0, h => by simp [obC]
  | o :: L, x :: vs, i + 1, h => by
    rw [List.eraseIdx_cons_succ, List.eraseIdx_cons_succ, obC, obC_erase (by simpa using h), obC]
    rw [show (i + 1) * 2 = i * 2 + 1 + 1 by omega, show (i + 1 + 1) * 2 = (i * 2 + 1 + 1) + 1 + 1 by omega]
    simp
theorem run_clear_obj (w : World) (ty : TypeId) (b o c : Nat) (hc : ∀ j, j < 2 → (w.cell? ⟨b, o + j, none⟩).isSome = true) (hf : ∀ j, j < 2 → w.frozen? ⟨b, o + j, none⟩ = false) :
    (Builtin.clear_ #[23] ty #[.slice (some ⟨b, o, none⟩) 1 c]).run Try.prog w = .ok (.tuple #[]) (w.setCells b o [.int .i64 0, .slice none 0 0]) := by
  have hst := run_storeCells_cells (P := Try.prog) b o [.int .i64 0, .slice none 0 0] 0 w (by simpa using hc) (by simpa using hf) (by simp [Value.oneCell'])
  simp only [Nat.add_zero] at hst
  obtain ⟨i, hi1, hi2, hi3, hi4⟩ := info3 info_obj
  have hz : (zeroValue 72).run Try.prog w = .ok (.agg #[.int .i64 0, .slice none 0 0]) w := by
    simp [zeroValue, typeInfo, hi1, hi2, go_sem]
  have hzc : (Builtin.zeroCells (Value.agg #[.int .i64 0, .slice none 0 0]).cells 1).toList = [.int .i64 0, .slice none 0 0] := by kernel_rfl
  simp [Builtin.clear_, run_underlying Try.underlying23, hz, hzc, hst]
section
variable {P : Program} {ops : Array Oper} {rest : List Oper} {o : Oper} {a : Act} {Q : Exit → Act → World → Prop} {w : World}
/-- append where there is room -/
theorem wpList_appendRoom (hgd : Region.wanted o (yielded ops a.tmps) = true) {s x : Operand} {t e : TypeId} (ho : o.op = .call { callee := .builtin .append, args := #[s, x], argTypes := #[t, t] }) (ht : P.underlying t = some (.slice e)) {size : Nat} (hi : (P.info? e).map (·.size) = some size)
    {b off n cap : Nat} (hs : a.eval s = .slice (some ⟨b, off, none⟩) n cap) {ad : Addr} {m c : Nat} (news : List Value) (hx : a.eval x = .slice (some ad) m c) (hn : news.length = m * size) (hc : ∀ j u, news[j]? = some u → w.cell? (ad.add j) = some u) (h1 : ∀ u ∈ news, u.oneCell' = true)
    (hroom : n + m ≤ cap) (hspare : ∀ j, j < news.length → (w.cell? ⟨b, off + n * size + j, none⟩).isSome = true ∧ w.frozen? ⟨b, off + n * size + j, none⟩ = false)
    (h : wpList P ops Q rest (a.put o.dst (.slice (some ⟨b, off, none⟩) (n + m) cap)) (w.setCells b (off + n * size) news)) : wpList P ops Q (o :: rest) a w := by
  obtain ⟨i, hi', rfl⟩ := Option.map_eq_some_iff.1 hi
  have hrun := run_append_room_cells (P := P) w t o.type e i ht hi' b off n cap ad m c news hn hc h1 hroom (fun j hj => (hspare j hj).1) (fun j hj => (hspare j hj).2)
  refine wpList_wanted hgd fun K hK => ?_
  unfold Oper.wp
  simp [execOp, ho, resolve, invoke, builtin, hs, hx, hrun, Result.andThen]
  exact hK _ _ h
end
theorem setCells_size (g : Nat) : ∀ (l : List Value) (o : Nat) (w : World), (w.setCells g o l).heap.size = w.heap.size
  | [], _, _ => rfl
  | v :: r, o, w => by rw [World.setCells, setCells_size g r]; simp [World.setCell]
theorem setCells_os (g : Nat) : ∀ (l : List Value) (o : Nat) (w : World), (w.setCells g o l).os = w.os ∧ (w.setCells g o l).tape = w.tape ∧ (w.setCells g o l).output = w.output
  | [], _, _ => ⟨rfl, rfl, rfl⟩
  | v :: r, o, w => by rw [World.setCells]; exact setCells_os g r (o + 1) _
theorem setCells_block (g : Nat) {k : Nat} (hk : k ≠ g) : ∀ (l : List Value) (o : Nat) (w : World), (w.setCells g o l).heap[k]? = w.heap[k]?
  | [], _, _ => rfl
  | v :: r, o, w => by rw [World.setCells, setCells_block g hk r]; exact Below.heap_setCell w ⟨g, o, none⟩ v k hk
theorem setCells_grown (g o : Nat) (l : List Value) (w : World) : w.grownBy (w.setCells g o l) (some g) :=
  ⟨(setCells_os g l o w).1, (setCells_os g l o w).2.1, (setCells_os g l o w).2.2, by rw [setCells_size]; exact Nat.le_refl _, fun k hk hne => setCells_block g (by intro e; exact hne (by rw [e])) l o w⟩
set_option maxRecDepth 100000 in
set_option maxHeartbeats 4000000 in
theorem Delete_any (g n cap i j B : Nat) (xs : List Value) (hj : j = i + 1) (hi : i < n) (hn : n ≤ 1000) (w : World) (h : w.ownsRow B 72 2 (.slice (some ⟨g, 0, none⟩) n cap) n xs) (h1 : ∀ u ∈ xs, u.oneCell' = true) :
    Calls Try.prog 58 #[.slice (some ⟨g, 0, none⟩) n cap, .int .i64 i, .int .i64 j] w fun e w' => e = .returned (.slice (some ⟨g, 0, none⟩) (n - 1 : Nat) cap) ∧
      w'.ownsRow B 72 2 (.slice (some ⟨g, 0, none⟩) (n - 1) cap) (n - 1) (xs.take (i * 2) ++ xs.drop ((i + 1) * 2)) ∧ w.grownBy w' (some g) := by
  obtain ⟨g', cap', cur, hv, hB, hg, hnc, hcm, hcs, htk⟩ := own_form h (by omega)
  injection hv with e1 e2 e3; injection e1 with e1; injection e1 with e1; subst e1; subst e3
  have hxl := h.1
  obtain ⟨news, hnews⟩ : ∃ l, l = xs.drop ((i + 1) * 2) := ⟨_, rfl⟩
  have hnl : news.length = (n - j) * 2 := by rw [hnews, List.length_drop, hxl]; omega
  have hcell : ∀ (k : Nat) u, xs[k]? = some u → w.cell? ⟨g, k, none⟩ = some u := fun k u hu => by
    rw [blk_cell hg]
    rw [← htk, List.getElem?_take] at hu
    split at hu
    · simpa using hu
    · cases hu
  obtain ⟨A, hA, hsrc⟩ : ∃ A : Addr, (if cap = j then some (⟨g, 0, none⟩ : Addr) else some ⟨g, j * 2, none⟩) = some A ∧ ∀ t u, news[t]? = some u → w.drew.cell? (A.add t) = some u := by
    by_cases hc : cap = j
    · refine ⟨⟨g, 0, none⟩, by simp [hc], fun t u hu => ?_⟩
      have h0 : news.length = 0 := by rw [hnl]; omega
      rw [List.length_eq_zero_iff.1 h0] at hu
      simp at hu
    · refine ⟨⟨g, j * 2, none⟩, by simp [hc], fun t u hu => ?_⟩
      rw [hnews, List.getElem?_drop] at hu
      rw [Addr.add_lit]
      have := hcell _ u hu
      rw [hj]; exact this
  have hone : ∀ u ∈ news, u.oneCell' = true := fun u hu => h1 u (by rw [hnews] at hu; exact List.mem_of_mem_drop hu)
  have hspare : ∀ t, t < news.length → (w.drew.cell? ⟨g, 0 + i * 2 + t, none⟩).isSome = true ∧ w.drew.frozen? ⟨g, 0 + i * 2 + t, none⟩ = false := fun t ht => by
    refine ⟨?_, blk_free (w := w.drew) hg _⟩
    have := blk_cell (w := w.drew) hg (0 + i * 2 + t)
    rw [this, Array.getElem?_eq_getElem (by rw [hcs, hnl] at *; omega)]; rfl
  obtain ⟨W1, hW1⟩ : ∃ W, W = w.drew.setCells g (0 + i * 2) news := ⟨_, rfl⟩
  have hg1 : Bx W1 g 72 (putL cur (0 + i * 2) news) := by rw [hW1]; exact Bx.setCells news (0 + i * 2) (show Bx w.drew g _ cur from hg)
  have hsz1 : (putL cur (0 + i * 2) news).size = cap * 2 := by rw [putL_size]; exact hcs
  have hcl := run_clear_obj W1 0 g ((n - 1) * 2) (cap - (n - 1)) (fun k hk => by rw [hg1.cell, Array.getElem?_eq_getElem (by rw [hsz1]; omega)]; rfl) (fun k hk => hg1.free _)
  obtain ⟨W2, hW2⟩ : ∃ W, W = W1.setCells g ((n - 1) * 2) [.int .i64 0, .slice none 0 0] := ⟨_, rfl⟩
  rw [← hW2] at hcl
  have hg2 : Bx W2 g 72 (putL (putL cur (0 + i * 2) news) ((n - 1) * 2) [.int .i64 0, .slice none 0 0]) := by rw [hW2]; exact hg1.setCells _ _
  have HFIN := Lib.hid (show W2.ownsRow B 72 2 (.slice (some ⟨g, 0, none⟩) (n - 1) cap) (n - 1) (xs.take (i * 2) ++ xs.drop ((i + 1) * 2)) ∧ w.grownBy W2 (some g) from by
    refine ⟨⟨by rw [List.length_append, List.length_take, List.length_drop, hxl]; omega, .inr ⟨g, cap, _, rfl, hB, hg2, by omega, hcm, by rw [putL_size]; exact hsz1, ?_⟩⟩, ?_⟩
    · apply List.ext_getElem?
      intro k
      rw [List.getElem?_take]
      split
      · rename_i hk
        rw [Array.getElem?_toList, putL_get _ _ _ _ (by rw [hsz1]; simp; omega), if_neg (by omega), putL_get _ _ _ _ (by rw [hnl, hcs]; omega)]
        by_cases hki : k < i * 2
        · rw [if_neg (by omega), List.getElem?_append_left (by rw [List.length_take, hxl]; omega), List.getElem?_take, if_pos hki, ← htk, List.getElem?_take, if_pos (by omega), Array.getElem?_toList]
        · rw [if_pos (by rw [hnl]; omega), List.getElem?_append_right (by rw [List.length_take, hxl]; omega), hnews, List.length_take, hxl]
          congr 1; omega
      · rename_i hk
        rw [List.getElem?_eq_none (by rw [List.length_append, List.length_take, List.length_drop, hxl]; omega)]
    · have k1 := setCells_grown g (0 + i * 2) news w.drew
      have k2 := setCells_grown g ((n - 1) * 2) [.int .i64 0, .slice none 0 0] W1
      rw [← hW1] at k1; rw [← hW2] at k2
      exact ⟨k2.os.trans k1.os, k2.tape.trans k1.tape, k2.output.trans k1.output, Nat.le_trans k1.size k2.size, fun k hk hne => (k2.block k (Nat.lt_of_lt_of_le hk k1.size) hne).trans (k1.block k hk hne)⟩)
  have HA := Lib.hid (And.intro hA (And.intro hsrc (And.intro hone (And.intro hspare (And.intro hnl (And.intro hW1 hj))))))
  have hb1 : i ≤ cap := by omega
  have hb2 : j ≤ cap := by omega
  have hb3 : i ≤ j := by omega
  have hb4 : j ≤ n := by omega
  have hne : ((i : Int) == (j : Int)) = false := by rw [beq_eq_false_iff_ne]; omega
  clear hW2 hg2 hW1 hg1 hsz1 hspare hone hsrc hcell hnl hnews htk hcs hcm hg hB h hxl h1 hj
  go_enter Try.func58, Try.ntmps58
  go_upto_region 5 with (fail)
  refine wp_region_qtail 6 (by kernel_rfl) (by kernel_rfl) ?_
  simp only [List.take_succ_cons, List.take_zero, List.drop_succ_cons, List.drop_zero]
  iterate 6 (go_big_quiet_step (fail))
  refine wpQuiet_nil ?_
  refine wpList_appendRoom (by rfl) (s := .tmp 22) (x := .tmp 25) rfl Try.underlying23 size_obj (b := g) (off := 0) (n := i) (cap := cap) (by rfl) (ad := A) (m := n - j) (c := cap - j) news (by rw [← HA.out.1]; rfl) HA.out.2.2.2.2.1 HA.out.2.1 HA.out.2.2.1 (by omega) HA.out.2.2.2.1 ?_
  rw [← HA.out.2.2.2.2.2.1]
  have hij : i + (n - j) = n - 1 := by have := HA.out.2.2.2.2.2.2; omega
  rw [hij]
  simp only [Act.put, List.setIfInBounds_toArray, List.set_cons_zero, List.set_cons_succ]
  obtain ⟨n1, hn1⟩ : ∃ n1, n1 = n - 1 := ⟨_, rfl⟩
  rw [← hn1] at hcl ⊢
  have hc1 : ¬ cap = n1 := by omega
  have hc2 : n - n1 = 1 := by omega
  have hc3 : n1 ≤ n := by omega
  have hc4 : n ≤ cap := hnc
  have HN := Lib.hid hn1
  clear hij hn1 hne hb1 hb2 hb3 hb4 hi
  go_wp2
  go_ret
  rw [← HN.out] at HFIN ⊢
  exact ⟨rfl, HFIN.out⟩
/-- an object is taken away -/
theorem OwnO.erase {w : World} {B g n cap : Nat} {L : List Ob} (h : OwnO w B (.slice (some ⟨g, 0, none⟩) n cap) L) {i : Nat} (hi : i < L.length) (hn : L.length ≤ 1000) :
    n = L.length ∧ ∃ xs, w.ownsRow B 72 2 (.slice (some ⟨g, 0, none⟩) n cap) n xs ∧ (∀ u ∈ xs, u.oneCell' = true) ∧ ∀ W, w.grownBy W (some g) → W.ownsRow B 72 2 (.slice (some ⟨g, 0, none⟩) (n - 1) cap) (n - 1) (xs.take (i * 2) ++ xs.drop ((i + 1) * 2)) → OwnO W B (.slice (some ⟨g, 0, none⟩) (n - 1) cap) (L.eraseIdx i) := by
  obtain ⟨vs, h1, h2, h4, h5⟩ := h
  obtain ⟨g', cap', cur, hv, _⟩ := own_form h2 (by omega)
  injection hv with e1 e2 e3
  subst e2
  refine ⟨rfl, _, h2, ?_, fun W hg ho => ⟨vs.eraseIdx i, ?_, ?_, ?_, ?_⟩⟩
  · intro u hu
    have : ∀ (L : List Ob) (vs : List Value), (∀ x ∈ vs, x.oneCell' = true) → ∀ u ∈ obC L vs, u.oneCell' = true := by
      intro L
      induction L with
      | nil => intro vs _ u hu; simp [obC] at hu
      | cons o L ih =>
        intro vs hvs u hu
        cases vs with
        | nil => simp [obC] at hu
        | cons x vs =>
          rw [obC] at hu
          rcases List.mem_cons.1 hu with h | h
          · rw [h]; rfl
          · rcases List.mem_cons.1 h with h | h
            · rw [h]; exact hvs x List.mem_cons_self
            · exact ih vs (fun y hy => hvs y (List.mem_cons_of_mem _ hy)) u h
    refine this L vs (fun x hx => ?_) u hu
    obtain ⟨k, hk⟩ := List.mem_iff_getElem?.1 hx
    have hkl : k < L.length := by rw [← h1]; exact (List.getElem?_eq_some_iff.1 hk).1
    exact (h4 k x _ hk (List.getElem?_eq_getElem hkl)).rd.oneCell
  · rw [List.length_eraseIdx_of_lt (by omega), List.length_eraseIdx_of_lt hi, h1]
  · rw [List.length_eraseIdx_of_lt hi, obC_erase h1]; exact ho
  · intro k x o hx ho2
    rw [List.getElem?_eraseIdx] at hx ho2
    split at hx
    · rename_i hk
      rw [if_pos hk] at ho2
      have := h4 k x o hx ho2
      exact World.ownsRow.kept this hg (own_unlike this h2 (by decide))
    · rename_i hk
      rw [if_neg hk] at ho2
      have := h4 _ x o hx ho2
      exact World.ownsRow.kept this hg (own_unlike this h2 (by decide))
  · intro a b x y hab hx hy
    rw [List.getElem?_eraseIdx] at hx hy
    split at hx <;> split at hy <;> exact h5 _ _ x y (by omega) hx hy
end Go.Proofs.Ytgjpohhafmkhcaa
