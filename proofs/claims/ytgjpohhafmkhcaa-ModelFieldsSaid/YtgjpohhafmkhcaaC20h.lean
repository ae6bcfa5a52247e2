/- Models of the call's own: stores beside them, one more object. -/
import Derived.Test.YtgjpohhafmkhcaaC20g
set_option linter.unusedVariables false
set_option linter.unusedSimpArgs false
namespace Go.Proofs.Ytgjpohhafmkhcaa
open Go.RowKit L02 L13 L18 L20

def Small (m : Mo) : Prop := m.types.length ≤ 20 ∧ m.objs.length ≤ 962 ∧ m.slots.length ≤ 30 ∧ (∀ t ∈ m.types, t.length ≤ 20) ∧ ∀ o ∈ m.objs, o.fs.length ≤ 20
theorem small_of {m : Mo} (h : ¬ Great m) (h2 : m.objs.length < 960 ∨ m.objs.length ≤ 962) : Small m := by
  unfold Great at h
  refine ⟨by omega, by omega, by omega, fun t ht => ?_, fun o ho => ?_⟩
  · exact Nat.le_of_not_lt fun hl => h (.inr (.inr (.inr (.inr (.inl ⟨t, ht, hl⟩)))))
  · exact Nat.le_of_not_lt fun hl => h (.inr (.inr (.inr (.inr (.inr ⟨o, ho, hl⟩)))))
theorem small_chk {m : Mo} (h : chk m = 0) : Small m := by
  obtain ⟨h1, h2, h3, h4, h5, h6⟩ := chk_ok h
  have ht : ∀ t ∈ m.types, t.length ≤ 8 := fun t ht => (kErr_ok (h4 t ht)).1
  refine ⟨by omega, by omega, by omega, fun t hh => by have := ht t hh; omega, fun o ho => ?_⟩
  have ho' := h5 o ho
  have hty : o.ty.toNat < m.types.length := by have := ho'.1; omega
  have : ty m.types o ∈ m.types := by
    rw [ty, List.getD_eq_getElem?_getD, List.getElem?_eq_getElem hty]
    exact List.getElem_mem hty
  have := ht _ this
  have := ho'.2.1
  omega

theorem grown_set (w : World) (p : Addr) (u : Value) : w.grownBy (w.setCell p u) (some p.block) :=
  ⟨rfl, rfl, rfl, by simp [World.setCell], fun k hk hne => Below.heap_setCell w p u k (fun e => hne (by rw [e]))⟩
theorem own_not_bx {w : World} {B e sz n p : Nat} {v : Value} {xs : List Value} {t : TypeId} {cs : Array Value} (h : w.ownsRow B e sz v n xs) (hg : Bx w p t cs) (hne : e ≠ t) : v.ownBlock = none ∨ v.ownBlock ≠ some p := by
  rcases h.2 with ⟨rfl, _⟩ | ⟨g, cap, cur, rfl, _, hgg, _⟩
  · exact .inl rfl
  · refine .inr ?_
    intro he
    simp [Value.ownBlock] at he
    subst he
    rw [Bx, hgg] at hg
    injection hg with hg
    injection hg with _ h2 _
    exact hne h2
theorem own_set {w : World} {B e sz n p i : Nat} {v u : Value} {xs : List Value} {t : TypeId} {cs : Array Value} (h : w.ownsRow B e sz v n xs) (hg : Bx w p t cs) (hne : e ≠ t) : (w.setCell ⟨p, i, none⟩ u).ownsRow B e sz v n xs :=
  World.ownsRow.kept h (grown_set w ⟨p, i, none⟩ u) (own_not_bx h hg hne)
theorem OwnT.set {w : World} {B p i : Nat} {v u : Value} {L : List (List UInt8)} {t : TypeId} {cs : Array Value} (h : OwnT w B v L) (hg : Bx w p t cs) (h1 : 74 ≠ t) (h2 : 5 ≠ t) : OwnT (w.setCell ⟨p, i, none⟩ u) B v L := by
  obtain ⟨vs, a1, a2, a4⟩ := h; exact ⟨vs, a1, own_set a2 hg h1, fun i x l h5 h6 => own_set (a4 i x l h5 h6) hg h2⟩
theorem OwnO.set {w : World} {B p i : Nat} {v u : Value} {L : List Ob} {t : TypeId} {cs : Array Value} (h : OwnO w B v L) (hg : Bx w p t cs) (h1 : 72 ≠ t) (h2 : 29 ≠ t) : OwnO (w.setCell ⟨p, i, none⟩ u) B v L := by
  obtain ⟨vs, a1, a2, a4, a5⟩ := h; exact ⟨vs, a1, own_set a2 hg h1, fun i x l h5 h6 => own_set (a4 i x l h5 h6) hg h2, a5⟩
/-- one more object: xs the slices of fields, x the new one; the row was appended to. -/
theorem OwnO.snoc {w w' : World} {base n : Nat} {v v' x : Value} {L : List Ob} {o : Ob} {vs : List Value} (h1 : vs.length = L.length) (ho0 : w.ownsRow base 72 2 v L.length (obC L vs)) (ho : w'.ownsRow base 72 2 v' n (obC L vs ++ [i64 o.ty, x]))
    (h4 : ∀ (i : Nat) x l, vs[i]? = some x → L[i]? = some l → OwnW w base 29 x l.fs) (h5 : ∀ (i j : Nat) x y, i ≠ j → vs[i]? = some x → vs[j]? = some y → x.ownBlock = none ∨ x.ownBlock ≠ y.ownBlock)
    (hx : OwnW w base 29 x o.fs) (hap : ∀ (i : Nat) y, vs[i]? = some y → (x.ownBlock = none ∨ x.ownBlock ≠ y.ownBlock) ∧ (y.ownBlock = none ∨ y.ownBlock ≠ x.ownBlock)) (hg : w.grownBy w' v.ownBlock) : OwnO w' base v' (L ++ [o]) := by
  have hn : n = (L ++ [o]).length := by have := ho.1; rw [List.length_append, obC_len h1] at this; simp at this ⊢; omega
  subst hn
  have keep : ∀ y m, OwnW w base 29 y m → OwnW w' base 29 y m := fun y m hy => World.ownsRow.kept hy hg (own_unlike hy ho0 (by decide))
  have idx : ∀ i, i ≥ vs.length → ∀ y, (vs ++ [x])[i]? = some y → i = vs.length ∧ y = x := by
    intro i hi y hy
    rw [List.getElem?_append_right hi] at hy
    have h0 : i - vs.length = 0 := by
      rcases Nat.eq_zero_or_pos (i - vs.length) with h | h
      · exact h
      · rw [List.getElem?_eq_none (by simp; omega)] at hy; cases hy
    rw [h0] at hy
    simp at hy
    exact ⟨by omega, hy.symm⟩
  refine ⟨vs ++ [x], by simp [h1], by rw [obC_snoc h1]; exact ho, fun i y l hy hl => ?_, fun i j y z hij hy hz => ?_⟩
  · by_cases hi : i < vs.length
    · rw [List.getElem?_append_left hi] at hy
      rw [List.getElem?_append_left (by omega)] at hl
      exact keep _ _ (h4 i y l hy hl)
    · obtain ⟨rfl, rfl⟩ := idx i (by omega) y hy
      rw [List.getElem?_append_right (by omega), h1] at hl
      simp at hl; subst hl
      exact keep _ _ hx
  · by_cases hi : i < vs.length
    · rw [List.getElem?_append_left hi] at hy
      by_cases hj : j < vs.length
      · rw [List.getElem?_append_left hj] at hz
        exact h5 i j y z hij hy hz
      · obtain ⟨_, rfl⟩ := idx j (by omega) z hz
        exact (hap i y hy).2
    · obtain ⟨e1, rfl⟩ := idx i (by omega) y hy
      by_cases hj : j < vs.length
      · rw [List.getElem?_append_left hj] at hz
        exact (hap j z hz).1
      · obtain ⟨e2, rfl⟩ := idx j (by omega) z hz
        omega
theorem Bx.grown {w w' : World} {g : Nat} {t : TypeId} {cs : Array Value} {row : Option Nat} (h : Bx w g t cs) (hg : w.grownBy w' row) (hne : row = none ∨ row ≠ some g) : Bx w' g t cs := by
  have hl := h.lt
  unfold Bx at *
  rw [hg.block g hl (by rcases hne with rfl | h; · simp
                        · exact fun e => h e.symm)]
  exact h
theorem own_form' {w : World} {B e sz n : Nat} {v : Value} {xs : List Value} (h : w.ownsRow B e sz v n xs) : ∃ A c, v = .slice A n c := by
  obtain ⟨A, c, e, _⟩ := Rd.of_own h; exact ⟨A, c, e⟩
/-- what one more copied type leaves of memory -/
theorem copyT_mem {w wr W1 W3 : World} {B0 p a b n : Nat} {xt y v o ys : Value} {vs : List Value} {L : List (List UInt8)} {t : List UInt8} {S : List Sl} {cs1 cs2 : Array Value}
    (z1 : vs.length = L.length) (z2 : wr.ownsRow B0 74 1 xt L.length vs) (z4 : ∀ (i : Nat) x l, vs[i]? = some x → L[i]? = some l → OwnB wr B0 5 x l)
    (oy : OwnB W1 wr.heap.size 5 y t) (b1 : Below wr.heap.size wr W1) (hown : W3.ownsRow B0 74 1 v n (vs ++ [y])) (hgr : (W1.alloc (.cells #[y] 74)).grownBy W3 xt.ownBlock)
    (q1 : Bx wr a 26 cs1) (q2 : Bx wr b 26 cs2) (q3 : Bx wr p 26 #[xt, o, ys]) (oS : OwnS wr B0 67 ys S) (B : Below B0 w wr) (hB : B0 ≤ wr.heap.size) (ha : a ≠ p) (hb : b ≠ p) (hp : B0 ≤ p) (hB0 : B0 ≤ w.heap.size) :
    (W3.cell? ⟨p, 0, none⟩ = some xt ∧ W3.frozen? ⟨p, 0, none⟩ = false) ∧ OwnT (W3.setCell ⟨p, 0, none⟩ v) B0 v (L ++ [t]) ∧ Bx (W3.setCell ⟨p, 0, none⟩ v) a 26 cs1 ∧ Bx (W3.setCell ⟨p, 0, none⟩ v) b 26 cs2 ∧ Bx (W3.setCell ⟨p, 0, none⟩ v) p 26 #[v, o, ys] ∧
      OwnS (W3.setCell ⟨p, 0, none⟩ v) B0 67 ys S ∧ Below B0 w (W3.setCell ⟨p, 0, none⟩ v) := by
  have b2 : Below wr.heap.size wr (W1.alloc (.cells #[y] 74)) := b1.alloc b1.size _
  have z2' := own_below z2 b2
  have nx := fun {g : Nat} {cs : Array Value} (hq : Bx (W1.alloc (.cells #[y] 74)) g 26 cs) => Bx.grown hq hgr (own_not_bx z2' hq (by decide))
  have r1 := nx (q1.below b2); have r2 := nx (q2.below b2); have r3 := nx (q3.below b2)
  have oS' : OwnS W3 B0 67 ys S := World.ownsRow.kept (own_below oS b2) hgr (own_unlike (own_below oS b2) z2' (by decide))
  have oT : OwnT W3 B0 v (L ++ [t]) := OwnT.snoc z1 z2' hown (fun i x l h5 h6 => OwnB.below (z4 i x l h5 h6) b2) (OwnB.below (own_mono oy hB) ((Below.refl _ W1).alloc (Nat.le_refl _) _)) hgr
  have B3 : Below B0 w W3 := (B.trans (b2.mono hB)).grown hgr (Nat.le_trans hB b2.size) (fun k hk => (z2'.lt k hk).1)
  refine ⟨⟨r3.cell 0, r3.free 0⟩, oT.set r3 (by decide) (by decide), r1.far (p := ⟨p, 0, none⟩) ha _, r2.far (p := ⟨p, 0, none⟩) hb _, ?_, own_set oS' r3 (by decide), B3.setCell (p := ⟨p, 0, none⟩) hp _⟩
  have := r3.set (i := 0) v
  simpa using this
theorem OwnT.kept {w w' : World} {B B2 e n sz : Nat} {v a : Value} {L : List (List UInt8)} {xs : List Value} (h : OwnT w B v L) (ha : w.ownsRow B2 e sz a n xs) (hg : w.grownBy w' a.ownBlock) (h1 : 74 ≠ e) (h2 : 5 ≠ e) : OwnT w' B v L := by
  obtain ⟨vs, a1, a2, a4⟩ := h
  exact ⟨vs, a1, World.ownsRow.kept a2 hg (own_unlike a2 ha h1), fun i x l h5 h6 => World.ownsRow.kept (a4 i x l h5 h6) hg (own_unlike (a4 i x l h5 h6) ha h2)⟩
/-- what one more copied object leaves of memory -/
theorem copyO_mem {w wr W1 W3 : World} {B0 p a b n : Nat} {ot y v xt ys : Value} {vs : List Value} {L : List Ob} {o : Ob} {S : List Sl} {T : List (List UInt8)} {cs1 cs2 : Array Value}
    (z1 : vs.length = L.length) (z2 : wr.ownsRow B0 72 2 ot L.length (obC L vs)) (z4 : ∀ (i : Nat) x l, vs[i]? = some x → L[i]? = some l → OwnW wr B0 29 x l.fs)
    (z5 : ∀ (i j : Nat) x y, i ≠ j → vs[i]? = some x → vs[j]? = some y → x.ownBlock = none ∨ x.ownBlock ≠ y.ownBlock)
    (oy : OwnW W1 wr.heap.size 29 y o.fs) (b1 : Below wr.heap.size wr W1) (hown : W3.ownsRow B0 72 2 v n (obC L vs ++ [i64 o.ty, y])) (hgr : (W1.alloc (.cells #[i64 o.ty, y] 72)).grownBy W3 ot.ownBlock)
    (q1 : Bx wr a 26 cs1) (q2 : Bx wr b 26 cs2) (q3 : Bx wr p 26 #[xt, ot, ys]) (oT : OwnT wr B0 xt T) (oS : OwnS wr B0 67 ys S) (B : Below B0 w wr) (hB : B0 ≤ wr.heap.size) (ha : a ≠ p) (hb : b ≠ p) (hp : B0 ≤ p) {q : Nat} {tq : TypeId} {cs4 : Array Value} (q4 : Bx wr q tq cs4) (hq : ot.ownBlock = none ∨ ot.ownBlock ≠ some q) (hqp : q ≠ p) :
    (W3.cell? ⟨p, 1, none⟩ = some ot ∧ W3.frozen? ⟨p, 1, none⟩ = false) ∧ OwnO (W3.setCell ⟨p, 1, none⟩ v) B0 v (L ++ [o]) ∧ Bx (W3.setCell ⟨p, 1, none⟩ v) a 26 cs1 ∧ Bx (W3.setCell ⟨p, 1, none⟩ v) b 26 cs2 ∧ Bx (W3.setCell ⟨p, 1, none⟩ v) p 26 #[xt, v, ys] ∧
      OwnT (W3.setCell ⟨p, 1, none⟩ v) B0 xt T ∧ OwnS (W3.setCell ⟨p, 1, none⟩ v) B0 67 ys S ∧ Below B0 w (W3.setCell ⟨p, 1, none⟩ v) ∧ Bx W3 q tq cs4 ∧ Bx (W3.setCell ⟨p, 1, none⟩ v) q tq cs4 := by
  have b2 : Below wr.heap.size wr (W1.alloc (.cells #[i64 o.ty, y] 72)) := b1.alloc b1.size _
  have z2' := own_below z2 b2
  have nx := fun {g : Nat} {cs : Array Value} (hq : Bx (W1.alloc (.cells #[i64 o.ty, y] 72)) g 26 cs) => Bx.grown hq hgr (own_not_bx z2' hq (by decide))
  have r1 := nx (q1.below b2); have r2 := nx (q2.below b2); have r3 := nx (q3.below b2)
  have oS' : OwnS W3 B0 67 ys S := World.ownsRow.kept (own_below oS b2) hgr (own_unlike (own_below oS b2) z2' (by decide))
  have oT' : OwnT W3 B0 xt T := (oT.below b2).kept z2' hgr (by decide) (by decide)
  have oO : OwnO W3 B0 v (L ++ [o]) := OwnO.snoc z1 z2' hown (fun i x l h5 h6 => OwnW.below (z4 i x l h5 h6) b2) z5 (OwnW.below (own_mono oy hB) ((Below.refl _ W1).alloc (Nat.le_refl _) _))
    (fun i x hx => own_ne (z4 i x _ hx (List.getElem?_eq_getElem (by have := (List.getElem?_eq_some_iff.1 hx).1; omega))) oy (Nat.le_refl _)) hgr
  have B3 : Below B0 w W3 := (B.trans (b2.mono hB)).grown hgr (Nat.le_trans hB b2.size) (fun k hk => (z2'.lt k hk).1)
  refine ⟨⟨r3.cell 1, r3.free 1⟩, oO.set r3 (by decide) (by decide), r1.far (p := ⟨p, 1, none⟩) ha _, r2.far (p := ⟨p, 1, none⟩) hb _, ?_, oT'.set r3 (by decide) (by decide), own_set oS' r3 (by decide), B3.setCell (p := ⟨p, 1, none⟩) hp _, (q4.below b2).grown hgr hq, ((q4.below b2).grown hgr hq).far (p := ⟨p, 1, none⟩) hqp _⟩
  have := r3.set (i := 1) v
  simpa using this
/-- a literal of one object -/
theorem lit_obj {w : World} {ty : Int} {x : Value} : Rd (w.alloc (.cells #[i64 ty, x] 72)) 2 (.slice (some ⟨w.heap.size, 0, none⟩) 1 1) 1 [i64 ty, x] := lit_rdK (n := 1) (sz := 2) rfl (by omega)
theorem one_obj {ty : Int} {x : Value} (h : x.oneCell' = true) : ∀ u ∈ [i64 ty, x], u.oneCell' = true := by
  intro u hu
  rcases List.mem_cons.1 hu with rfl | hu
  · rfl
  · simp at hu; subst hu; exact h
theorem OwnM.set {w : World} {B p i : Nat} {tv ov sv u : Value} {m : Mo} {cs : Array Value} (h : OwnM w B 67 tv ov sv m) (hg : Bx w p 26 cs) : OwnM (w.setCell ⟨p, i, none⟩ u) B 67 tv ov sv m :=
  ⟨h.t.set hg (by decide) (by decide), h.o.set hg (by decide) (by decide), own_set h.s hg (by decide)⟩
/-- a model's three cells are stored elsewhere -/
theorem OwnM.set3 {w : World} {B p : Nat} {tv ov sv a b c : Value} {m : Mo} {cs : Array Value} (h : OwnM w B 67 tv ov sv m) (hg : Bx w p 26 cs) :
    OwnM (((w.setCell ⟨p, 0, none⟩ a).setCell ⟨p, 1, none⟩ b).setCell ⟨p, 2, none⟩ c) B 67 tv ov sv m :=
  ((h.set hg).set (hg.set a)).set ((hg.set a).set b)
end Go.Proofs.Ytgjpohhafmkhcaa
